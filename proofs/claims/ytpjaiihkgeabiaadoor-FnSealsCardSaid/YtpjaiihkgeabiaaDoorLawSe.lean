/- The law FnSeals returns true for every input: its row and its tied card. Conditions: none of ours. -/
import Derived.Test.YtpjaiihkgeabiaaDoorCards
import Derived.Test.YtpjaiihkgeabiaaDoorTie
import Derived.Test.YtpjaiihkgeabiaaDoorDraw17
import Derived.Test.YtpjaiihkgeabiaaDoorSealQ
import Derived.Test.YtpjaiihkgeabiaaDoorSealH
import Derived.Test.YtpjaiihkgeabiaaDoorLiftByte
import Derived.Test.YtpjaiihkgeabiaaDoorLawKit
import Derived.Deep.RegionHeld3
import Derived.Deep.DeepCutAuto
set_option linter.unusedVariables false
set_option linter.unusedSimpArgs false
set_option maxRecDepth 100000
namespace Go.Proofs.YtpjaiihkgeabiaaDoor
open Go.ChangeShapes Go.WideShapes Go.ChangeAt Go.RowKit
def RetAnyB (w : World) (e : Ending) (w' : World) : Prop := (∃ b, e = .returned (.bool b)) ∧ w = w'
theorem big_any (w : World) (A B : Option Addr) (n m c d : Nat) (hn : n ≤ 9223372036854775807) (hm : m ≤ 9223372036854775807) :
    Calls Tryd.prog 5 #[.slice A n c, .slice B m d] w (RetAnyB w) := by
  by_cases h1 : (1048576 : Int) < n
  · go_enter Tryd.func5, Tryd.ntmps5
    go_wp2
    go_ret
    exact ⟨⟨_, rfl⟩, rfl⟩
  · go_enter Tryd.func5, Tryd.ntmps5
    go_wp2
    go_ret
    exact ⟨⟨_, rfl⟩, rfl⟩
set_option maxHeartbeats 400000 in
theorem pSameNames_any (w : World) (A B : Option Addr) (n m c d : Nat) (l : List ByteArray) (ha : RdT w A n l) (hb : RdT w B m l) (hn : n ≤ 1099511627776) :
    Calls Tryd.prog 19 #[.slice A n c, .slice B m d] w fun e w' => e = .returned (.bool true) ∧ ∃ x, w' = ext w x := by
  obtain rfl : n = m := ha.len.symm.trans hb.len
  go_enter Tryd.func19, Tryd.ntmps19
  go_wp2
  go_loopw [5, 13] (fun _ i wr => ∃ k x, k ≤ n ∧ i = .int .i64 (k : Nat) ∧ wr = ext w x) (fun _ i _ => n - (intOf i).toNat)
  case atStart => exact ⟨0, _, Nat.zero_le _, rfl, ext_self w⟩
  case round =>
    obtain ⟨k, x, hk, rfl, rfl⟩ := hrel
    by_cases hlt : k < n
    · obtain ⟨b1, o1, rfl, hb1, hc1⟩ := ha.open_ (by omega)
      obtain ⟨b2, o2, rfl, hb2, hc2⟩ := hb.open_ (by omega)
      have hq1 := hc1 k hlt
      have hq2 := hc2 k hlt
      clear hc1 hc2
      generalize l[k]?.getD ByteArray.empty = sk at *
      go_wp2
      go_quiet (fail)
      go_wp2
      go_roundw
      case rel => exact ⟨k + 1, _, by omega, by go_num, (ext_ex (by repeat (first | exact Below.refl _ _ | assumption | refine bExt ?_ _ | refine bAlloc ?_ _ | refine bDrewN ?_ _ | refine bDrew ?_ | refine bSet ?_ (by first | exact Nat.le_refl _ | omega | (simp; done) | (simp; omega)) _))).choose_spec⟩
      case measure => simp [intOf]; omega
    · go_wp2
      go_ret
      exact ⟨rfl, _, rfl⟩
theorem sameInts_self (w : World) (A B : Option Addr) (n m c d : Nat) (l : List Int) (ha : RdI w A n l) (hb : RdI w B m l) (hn : n ≤ 1099511627776) :
    Calls Tryd.prog 15 #[.slice A n c, .slice B m d] w fun e w' => e = .returned (.bool true) ∧ ∃ x, w' = ext w x :=
  (sameInts_any w A B n m c d l l ha hb hn).mono fun e w' h => ⟨by rw [h.1, sameB_iff.2 rfl], h.2⟩
set_option maxHeartbeats 4000000 in
theorem law_Seals (w : World) (A0 : Option Addr) (n0 c0 : Nat) (l0 : List Int) (ha0 : RdY w A0 n0 l0) (hm0 : n0 ≤ 9223372036854775807) (A1 : Option Addr) (n1 c1 : Nat) (l1 : List Int) (ha1 : RdY w A1 n1 l1) (hm1 : n1 ≤ 9223372036854775807) (hT0 : Tab w) :
    Calls Tryd.prog 3 #[.slice A0 n0 c0, .slice A1 n1 c1] w fun e w' => e = .returned (.bool true) ∧ Below w.heap.size w w' := by
  go_enter Tryd.func3, Tryd.ntmps3
  go_wp2_with fail
  refine (big_any _ _ _ _ _ _ _ hm0 hm1).mono ?_
  rintro e w1 ⟨⟨b, rfl⟩, rfl⟩
  cases b
  case true =>
    go_wp2
    go_ret
    exact ⟨rfl, by repeat (first | exact Below.refl _ _ | assumption | refine bExt ?_ _ | refine bAlloc ?_ _ | refine bDrewN ?_ _ | refine bDrew ?_ | refine bSet ?_ (by first | exact Nat.le_refl _ | omega | (simp; done) | (simp; omega)) _)⟩
  go_wp2_with fail
  refine (drawSealOf_any _ _ _ _ _ ha0 hm0).mono ?_
  rintro e wx ⟨r, D, q, z, L, x1, rfl, hq, hwx, oD⟩
  rw [← hwx] at oD
  have rD : RdI wx D q L := oD.rd
  have bx : Below w.heap.size w wx := by rw [hwx]; repeat (first | exact Below.refl _ _ | assumption | refine bExt ?_ _ | refine bAlloc ?_ _ | refine bDrewN ?_ _ | refine bDrew ?_ | refine bSet ?_ (by first | exact Nat.le_refl _ | omega | (simp; done) | (simp; omega)) _)
  have hqb : q ≤ 1099511627776 := by omega
  have ha2 : RdY wx A1 n1 l1 := ha1.below bx
  have hT : Tab wx := hT0.below bx
  clear hwx oD ha0 ha1 hT0
  go_wp2_with fail
  refine (implSealOf_any _ _ _ z r L (rD.below (by repeat (first | exact Below.refl _ _ | assumption | refine bExt ?_ _ | refine bAlloc ?_ _ | refine bDrewN ?_ _ | refine bDrew ?_ | refine bSet ?_ (by first | exact Nat.le_refl _ | omega | (simp; done) | (simp; omega)) _))) hqb (hT.below (by repeat (first | exact Below.refl _ _ | assumption | refine bExt ?_ _ | refine bAlloc ?_ _ | refine bDrewN ?_ _ | refine bDrew ?_ | refine bSet ?_ (by first | exact Nat.le_refl _ | omega | (simp; done) | (simp; omega)) _)))).mono ?_
  rintro e w1 ⟨x2, rfl, rfl⟩
  go_wp2_with fail
  refine (specSealOf_any _ _ _ z r L (rD.below (by repeat (first | exact Below.refl _ _ | assumption | refine bExt ?_ _ | refine bAlloc ?_ _ | refine bDrewN ?_ _ | refine bDrew ?_ | refine bSet ?_ (by first | exact Nat.le_refl _ | omega | (simp; done) | (simp; omega)) _))) hqb).mono ?_
  rintro e w1 ⟨x3, rfl, rfl⟩
  go_upto_if 78 with fail
  generalize hw1 : ext (ext wx x2) x3 = w1 at *
  have bW : Below wx.heap.size wx w1 := by rw [← hw1]; repeat (first | exact Below.refl _ _ | assumption | refine bExt ?_ _ | refine bAlloc ?_ _ | refine bDrewN ?_ _ | refine bDrew ?_ | refine bSet ?_ (by first | exact Nat.le_refl _ | omega | (simp; done) | (simp; omega)) _)
  have rD1 := rD.below bW
  have ha3 := ha2.below bW
  have hT1 := hT.below bW
  have BW : Below w.heap.size w w1 := bx.trans (bW.mono bx.size)
  clear hw1 rD ha2 hT bW bx
  have HF := Lib.hid (@seal_own r L)
  go_cut [] (fun wq => Below w1.heap.size w1 wq)
  case first =>
    exact Nonempty.elim (α := type_of% ?k1) (letI i : Nonempty (type_of% ?k1) := ⟨by
      clear ha3 BW
      generalize hok : sealOk r L = ok at *
      clear hok
      cases ok
      · go_wp2
        go_meet
        exact Below.refl _ _
      · obtain ⟨h1, h2⟩ := HF.out rfl
        have e1 := implSealHolds_any w1 D q z r L (sealR r L) rD1 hqb hT1
        rw [h1, h2] at e1
        clear h1 h2 HF hT1
        go_wp2_with ((go_at_call 9; ((with_reducible refine (e1).mono ?_); rintro e w' ⟨y1, rfl, rfl⟩)))
        go_meet
        exact ext_below _ _
      ⟩; by exact inferInstanceAs (Nonempty _)) (fun h => h)
  case rest =>
    exact Nonempty.elim (α := type_of% ?k6) (letI i : Nonempty (type_of% ?k6) := ⟨by
      have bz := hcut
      clear hcut
      rename World => w2
      have BW2 := BW.trans (bz.mono BW.size)
      have ha4 := ha3.below bz
      have hT2 := hT1.below bz
      clear HF rD1 hqb hq BW ha3 hT1 bz
      go_wp2_with fail
      refine (drawSealHolds_any _ _ _ _ _ ha4 hm1).mono ?_
      rintro e wx ⟨r2, D2, q2, z2, L2, s2, x5, rfl, hq, hwx, oD⟩
      rw [← hwx] at oD
      have rD : RdI wx D2 q2 L2 := oD.rd
      have bx : Below w2.heap.size w2 wx := by rw [hwx]; repeat (first | exact Below.refl _ _ | assumption | refine bExt ?_ _ | refine bAlloc ?_ _ | refine bDrewN ?_ _ | refine bDrew ?_ | refine bSet ?_ (by first | exact Nat.le_refl _ | omega | (simp; done) | (simp; omega)) _)
      have hqb : q2 ≤ 1099511627776 := by omega
      have ha5 := ha4.below bx
      have hT3 := hT2.below bx
      have BW3 := BW2.trans (bx.mono BW2.size)
      clear hwx oD ha4 hT2 bx BW2
      go_wp2_with fail
      refine (implSealHolds_any _ _ _ z2 r2 L2 s2 (rD.below (by repeat (first | exact Below.refl _ _ | assumption | refine bExt ?_ _ | refine bAlloc ?_ _ | refine bDrewN ?_ _ | refine bDrew ?_ | refine bSet ?_ (by first | exact Nat.le_refl _ | omega | (simp; done) | (simp; omega)) _))) hqb (hT3.below (by repeat (first | exact Below.refl _ _ | assumption | refine bExt ?_ _ | refine bAlloc ?_ _ | refine bDrewN ?_ _ | refine bDrew ?_ | refine bSet ?_ (by first | exact Nat.le_refl _ | omega | (simp; done) | (simp; omega)) _)))).mono ?_
      rintro e w1 ⟨x6, rfl, rfl⟩
      go_wp2_with fail
      refine (specSealHolds_any _ _ _ z2 r2 L2 s2 (rD.below (by repeat (first | exact Below.refl _ _ | assumption | refine bExt ?_ _ | refine bAlloc ?_ _ | refine bDrewN ?_ _ | refine bDrew ?_ | refine bSet ?_ (by first | exact Nat.le_refl _ | omega | (simp; done) | (simp; omega)) _))) hqb).mono ?_
      rintro e w1 ⟨x7, rfl, rfl⟩
      go_wp2_with fail
      refine (drawBranchOf_any _ _ _ _ _ (ha5.below (by repeat (first | exact Below.refl _ _ | assumption | refine bExt ?_ _ | refine bAlloc ?_ _ | refine bDrewN ?_ _ | refine bDrew ?_ | refine bSet ?_ (by first | exact Nat.le_refl _ | omega | (simp; done) | (simp; omega)) _))) hm1).mono ?_
      rintro e wy ⟨A, n, c, La, B, m, d, Lb, x8, rfl, ⟨hn, hm⟩, ⟨sA, sB⟩, hwy, rA, rB⟩
      rw [← hwy] at rA rB
      have by1 : Below wx.heap.size wx wy := by rw [hwy]; repeat (first | exact Below.refl _ _ | assumption | refine bExt ?_ _ | refine bAlloc ?_ _ | refine bDrewN ?_ _ | refine bDrew ?_ | refine bSet ?_ (by first | exact Nat.le_refl _ | omega | (simp; done) | (simp; omega)) _)
      have hnb : n ≤ 1099511627776 := by omega
      have hmb : m ≤ 1099511627776 := by omega
      have ha6 := ha5.below by1
      have BW4 := BW3.trans (by1.mono BW3.size)
      clear hwy rD ha5 hT3 by1 BW3 hqb hq
      go_wp2_with fail
      refine (implBranchOf_any _ _ _ _ _ _ _ La Lb (rA.below (by repeat (first | exact Below.refl _ _ | assumption | refine bExt ?_ _ | refine bAlloc ?_ _ | refine bDrewN ?_ _ | refine bDrew ?_ | refine bSet ?_ (by first | exact Nat.le_refl _ | omega | (simp; done) | (simp; omega)) _))) (rB.below (by repeat (first | exact Below.refl _ _ | assumption | refine bExt ?_ _ | refine bAlloc ?_ _ | refine bDrewN ?_ _ | refine bDrew ?_ | refine bSet ?_ (by first | exact Nat.le_refl _ | omega | (simp; done) | (simp; omega)) _))) hnb hmb).mono ?_
      rintro e w1 ⟨rfl, x9, rfl⟩
      go_wp2_with fail
      refine (specBranchOf_any _ _ _ _ _ _ _ La Lb (rA.below (by repeat (first | exact Below.refl _ _ | assumption | refine bExt ?_ _ | refine bAlloc ?_ _ | refine bDrewN ?_ _ | refine bDrew ?_ | refine bSet ?_ (by first | exact Nat.le_refl _ | omega | (simp; done) | (simp; omega)) _))) (rB.below (by repeat (first | exact Below.refl _ _ | assumption | refine bExt ?_ _ | refine bAlloc ?_ _ | refine bDrewN ?_ _ | refine bDrew ?_ | refine bSet ?_ (by first | exact Nat.le_refl _ | omega | (simp; done) | (simp; omega)) _))) hnb hmb).mono ?_
      rintro e w1 ⟨rfl, x10, rfl⟩
      go_wp2_with fail
      refine (implBranchOf_any _ _ _ _ _ _ _ Lb La (rB.below (by repeat (first | exact Below.refl _ _ | assumption | refine bExt ?_ _ | refine bAlloc ?_ _ | refine bDrewN ?_ _ | refine bDrew ?_ | refine bSet ?_ (by first | exact Nat.le_refl _ | omega | (simp; done) | (simp; omega)) _))) (rA.below (by repeat (first | exact Below.refl _ _ | assumption | refine bExt ?_ _ | refine bAlloc ?_ _ | refine bDrewN ?_ _ | refine bDrew ?_ | refine bSet ?_ (by first | exact Nat.le_refl _ | omega | (simp; done) | (simp; omega)) _))) hmb hnb).mono ?_
      rintro e w1 ⟨he, x11, rfl⟩
      rw [branchV_swap Lb La, branchOk_swap Lb La] at he
      subst he
      go_upto_if 163 with fail
      generalize hw4 : ext (ext (ext wy x9) x10) x11 = w4 at *
      have bW : Below wy.heap.size wy w4 := by rw [← hw4]; repeat (first | exact Below.refl _ _ | assumption | refine bExt ?_ _ | refine bAlloc ?_ _ | refine bDrewN ?_ _ | refine bDrew ?_ | refine bSet ?_ (by first | exact Nat.le_refl _ | omega | (simp; done) | (simp; omega)) _)
      have rA4 := rA.below bW
      have rB4 := rB.below bW
      have ha7 := ha6.below bW
      have BW5 := BW4.trans (bW.mono BW4.size)
      clear hw4 rA rB ha6 bW BW4
      have HF := Lib.hid (@branch_facts La Lb)
      go_cut [] (fun wq => Below w4.heap.size w4 wq)
      case first =>
        exact Nonempty.elim (α := type_of% ?k2) (letI i : Nonempty (type_of% ?k2) := ⟨by
          clear ha7 BW5
          generalize branchOk La Lb = ok at *
          cases ok
          · go_wp2
            go_meet
            exact Below.refl _ _
          · generalize branchV La Lb = bv at *
            obtain ⟨k, rfl, hka, hkb, htake, hne⟩ := HF.out rfl
            clear HF
            rw [rA4.len] at hka hne
            rw [rB4.len] at hkb hne
            have tA := rA4.take_ k hka
            have tB := rB4.take_ k hkb
            rw [← htake] at tB
            have hkc : k ≤ c := Nat.le_trans hka sA.2.1
            have hkd : k ≤ d := Nat.le_trans hkb sB.2.1
            have hcm : c ≤ 9223372036854775807 := Nat.le_trans sA.2.2 (by simp only [maxLen]; omega)
            have hdm : d ≤ 9223372036854775807 := Nat.le_trans sB.2.2 (by simp only [maxLen]; omega)
            have hkN : k ≤ 1099511627776 := by omega
            clear htake
            generalize La.take k = LT at *
            by_cases h1 : k < n
            · by_cases h2 : k < m
              · obtain ⟨b1, o1, rfl, hb1, hc1⟩ := rA4.open_ (by omega)
                obtain ⟨b2, o2, rfl, hb2, hc2⟩ := rB4.open_ (by omega)
                have e1 := hc1 k h1
                have e2 := hc2 k h2
                rw [List.getD_eq_getElem?_getD] at e1 e2
                have hq := hne h1 h2
                clear hc1 hc2 hne rA4 rB4 sA sB
                generalize La[k]?.getD 0 = va at *
                generalize Lb[k]?.getD 0 = vb at *
                go_wp2
                have g1 : (k : Int) < n := by omega
                have g2 : (k : Int) < m := by omega
                have g3 : decide ((n : Int) < k) = false := decide_eq_false (by omega)
                have g4 : decide ((m : Int) < k) = false := decide_eq_false (by omega)
                have g5 : decide ((k : Int) < n) = true := decide_eq_true g1
                have g6 : decide ((k : Int) < m) = true := decide_eq_true g2
                have g7 : (k : Int) ≤ c := by omega
                have g8 : (k : Int) ≤ d := by omega
                have p1 : ¬ n < k := by omega
                have p2 : ¬ m < k := by omega
                have p3 : decide (n < k) = false := decide_eq_false p1
                have p4 : decide (m < k) = false := decide_eq_false p2
                go_big_quiet ((go_at_call 15; exact sameInts_left tA tB hkN))
                go_wp2
                go_meet
                repeat (first | exact Below.refl _ _ | assumption | refine bExt ?_ _ | refine bAlloc ?_ _ | refine bDrewN ?_ _ | refine bDrew ?_ | refine bSet ?_ (by first | exact Nat.le_refl _ | omega | (simp; done) | (simp; omega)) _)
              · obtain ⟨b1, o1, rfl, hb1, hc1⟩ := rA4.open_ (by omega)
                clear hc1 hne rA4 rB4
                have g1 : (k : Int) < n := by omega
                have g2 : ¬ (k : Int) < m := by omega
                have g3 : decide ((n : Int) < k) = false := decide_eq_false (by omega)
                have g4 : decide ((m : Int) < k) = false := decide_eq_false (by omega)
                have g5 : decide ((k : Int) < n) = true := decide_eq_true g1
                have g6 : decide ((k : Int) < m) = false := decide_eq_false g2
                rcases sB.1 with ⟨rfl, rfl, rfl⟩ | ⟨gB, rfl⟩
                · obtain rfl : k = 0 := by omega
                  clear sA sB
                  go_wp2
                  have p0 : ¬ (n : Int) < 0 := by omega
                  have p1 : decide ((n : Int) < 0) = false := decide_eq_false (by omega)
                  go_big_quiet ((go_at_call 15; exact sameInts_left tA tB hkN))
                  go_wp2
                  go_meet
                  repeat (first | exact Below.refl _ _ | assumption | refine bExt ?_ _ | refine bAlloc ?_ _ | refine bDrewN ?_ _ | refine bDrew ?_ | refine bSet ?_ (by first | exact Nat.le_refl _ | omega | (simp; done) | (simp; omega)) _)
                · clear sA sB
                  go_wp2
                  have g7 : (k : Int) ≤ c := by omega
                  have g8 : (k : Int) ≤ d := by omega
                  have p1 : ¬ n < k := by omega
                  have p2 : ¬ m < k := by omega
                  have p3 : decide (n < k) = false := decide_eq_false p1
                  have p4 : decide (m < k) = false := decide_eq_false p2
                  go_big_quiet ((go_at_call 15; exact sameInts_left tA tB hkN))
                  go_wp2
                  go_meet
                  repeat (first | exact Below.refl _ _ | assumption | refine bExt ?_ _ | refine bAlloc ?_ _ | refine bDrewN ?_ _ | refine bDrew ?_ | refine bSet ?_ (by first | exact Nat.le_refl _ | omega | (simp; done) | (simp; omega)) _)
            · clear hne rA4 rB4
              have g1 : ¬ (k : Int) < n := by omega
              have g3 : decide ((n : Int) < k) = false := decide_eq_false (by omega)
              have g4 : decide ((m : Int) < k) = false := decide_eq_false (by omega)
              have g5 : decide ((k : Int) < n) = false := decide_eq_false g1
              rcases sA.1 with ⟨rfl, rfl, rfl⟩ | ⟨gA, rfl⟩
              · obtain rfl : k = 0 := by omega
                rcases sB.1 with ⟨rfl, rfl, rfl⟩ | ⟨gB, rfl⟩
                · clear sA sB
                  go_wp2
                  go_big_quiet ((go_at_call 15; exact sameInts_left tA tB hkN))
                  go_wp2
                  go_meet
                  repeat (first | exact Below.refl _ _ | assumption | refine bExt ?_ _ | refine bAlloc ?_ _ | refine bDrewN ?_ _ | refine bDrew ?_ | refine bSet ?_ (by first | exact Nat.le_refl _ | omega | (simp; done) | (simp; omega)) _)
                · clear sA sB
                  go_wp2
                  have g8 : ((0 : Nat) : Int) ≤ d := by omega
                  have p0 : ¬ (m : Int) < 0 := by omega
                  have p1 : decide ((m : Int) < 0) = false := decide_eq_false (by omega)
                  go_big_quiet ((go_at_call 15; exact sameInts_left tA tB hkN))
                  go_wp2
                  go_meet
                  repeat (first | exact Below.refl _ _ | assumption | refine bExt ?_ _ | refine bAlloc ?_ _ | refine bDrewN ?_ _ | refine bDrew ?_ | refine bSet ?_ (by first | exact Nat.le_refl _ | omega | (simp; done) | (simp; omega)) _)
              · rcases sB.1 with ⟨rfl, rfl, rfl⟩ | ⟨gB, rfl⟩
                · obtain rfl : k = 0 := by omega
                  clear sA sB
                  go_wp2
                  have g7 : ((0 : Nat) : Int) ≤ c := by omega
                  have p0 : ¬ (n : Int) < 0 := by omega
                  have p1 : decide ((n : Int) < 0) = false := decide_eq_false (by omega)
                  have p2 : ¬ (0 : Int) < n := by omega
                  have p3 : decide ((0 : Int) < n) = false := decide_eq_false (by omega)
                  have p4 : ¬ 0 < n := by omega
                  have p5 : decide (0 < n) = false := decide_eq_false (by omega)
                  go_big_quiet ((go_at_call 15; exact sameInts_left tA tB hkN))
                  go_wp2
                  go_meet
                  repeat (first | exact Below.refl _ _ | assumption | refine bExt ?_ _ | refine bAlloc ?_ _ | refine bDrewN ?_ _ | refine bDrew ?_ | refine bSet ?_ (by first | exact Nat.le_refl _ | omega | (simp; done) | (simp; omega)) _)
                · clear sA sB
                  go_wp2
                  have g7 : (k : Int) ≤ c := by omega
                  have g8 : (k : Int) ≤ d := by omega
                  have p1 : ¬ n < k := by omega
                  have p2 : ¬ m < k := by omega
                  have p3 : decide (n < k) = false := decide_eq_false p1
                  have p4 : decide (m < k) = false := decide_eq_false p2
                  go_big_quiet ((go_at_call 15; exact sameInts_left tA tB hkN))
                  go_wp2
                  go_meet
                  repeat (first | exact Below.refl _ _ | assumption | refine bExt ?_ _ | refine bAlloc ?_ _ | refine bDrewN ?_ _ | refine bDrew ?_ | refine bSet ?_ (by first | exact Nat.le_refl _ | omega | (simp; done) | (simp; omega)) _)
          ⟩; by exact inferInstanceAs (Nonempty _)) (fun h => h)
      case rest =>
        exact Nonempty.elim (α := type_of% ?k5) (letI i : Nonempty (type_of% ?k5) := ⟨by
          have bz := hcut
          clear hcut
          rename World => w5
          have BW6 := BW5.trans (bz.mono BW5.size)
          have ha8 := ha7.below bz
          clear HF rA4 rB4 sA sB hn hm hnb hmb BW5 ha7 bz
          go_wp2_with fail
          refine (drawJoinChains_any _ _ _ _ _ ha8 hm1).mono ?_
          rintro e wx ⟨A, n, c, La, B, m, d, Lb, x12, rfl, ⟨hn, hm⟩, hsa, hsb, hwx, oA, oB⟩
          rw [← hwx] at oA oB
          have cA := oA.cap_
          have rA : RdT wx A n La := oA.rd
          have rB : RdT wx B m Lb := oB.rd
          have bx : Below w5.heap.size w5 wx := by rw [hwx]; repeat (first | exact Below.refl _ _ | assumption | refine bExt ?_ _ | refine bAlloc ?_ _ | refine bDrewN ?_ _ | refine bDrew ?_ | refine bSet ?_ (by first | exact Nat.le_refl _ | omega | (simp; done) | (simp; omega)) _)
          have hnb : n ≤ 1099511627776 := by omega
          have hmb : m ≤ 1099511627776 := by omega
          have hsa' : ∀ s ∈ La, s.size ≤ 9223372036854775807 := fun s hs => Nat.le_trans (hsa s hs) (by omega)
          have hsb' : ∀ s ∈ Lb, s.size ≤ 9223372036854775807 := fun s hs => Nat.le_trans (hsb s hs) (by omega)
          have ha9 := ha8.below bx
          have BW7 := BW6.trans (bx.mono BW6.size)
          clear hwx oA oB ha8 bx BW6 hsa hsb
          go_wp2_with fail
          refine (implJoinChains_any _ _ _ _ _ _ _ La Lb (rA.below (by repeat (first | exact Below.refl _ _ | assumption | refine bExt ?_ _ | refine bAlloc ?_ _ | refine bDrewN ?_ _ | refine bDrew ?_ | refine bSet ?_ (by first | exact Nat.le_refl _ | omega | (simp; done) | (simp; omega)) _))) (rB.below (by repeat (first | exact Below.refl _ _ | assumption | refine bExt ?_ _ | refine bAlloc ?_ _ | refine bDrewN ?_ _ | refine bDrew ?_ | refine bSet ?_ (by first | exact Nat.le_refl _ | omega | (simp; done) | (simp; omega)) _))) hnb hmb hsa' hsb').mono ?_
          rintro e w1 ⟨R, rn, rc, C, cn, cc, x13, rfl, rfl, oR, oC, _, _⟩
          go_wp2_with fail
          refine (specJoinChains_any _ _ _ _ _ _ _ La Lb (rA.below (by repeat (first | exact Below.refl _ _ | assumption | refine bExt ?_ _ | refine bAlloc ?_ _ | refine bDrewN ?_ _ | refine bDrew ?_ | refine bSet ?_ (by first | exact Nat.le_refl _ | omega | (simp; done) | (simp; omega)) _))) (rB.below (by repeat (first | exact Below.refl _ _ | assumption | refine bExt ?_ _ | refine bAlloc ?_ _ | refine bDrewN ?_ _ | refine bDrew ?_ | refine bSet ?_ (by first | exact Nat.le_refl _ | omega | (simp; done) | (simp; omega)) _))) hnb hmb hsa' hsb').mono ?_
          rintro e w1 ⟨J, jn, jc, K, kn, kc, x14, rfl, rfl, oJ, oK, _, _⟩
          have hrn : rn ≤ 1099511627776 := by rw [← oR.len]; exact Nat.le_trans (joinL_len _ _) (by omega)
          have hcn : cn ≤ 1099511627776 := by rw [← oC.len]; exact Nat.le_trans (joinC_len _ _) (by omega)
          go_upto_if 241 with (first | (go_at_call 19; ((with_reducible refine (pSameNames_any _ _ _ _ _ _ _ _ (oR.rd.below (by repeat (first | exact Below.refl _ _ | assumption | refine bExt ?_ _ | refine bAlloc ?_ _ | refine bDrewN ?_ _ | refine bDrew ?_ | refine bSet ?_ (by first | exact Nat.le_refl _ | omega | (simp; done) | (simp; omega)) _))) (oJ.rd.below (by repeat (first | exact Below.refl _ _ | assumption | refine bExt ?_ _ | refine bAlloc ?_ _ | refine bDrewN ?_ _ | refine bDrew ?_ | refine bSet ?_ (by first | exact Nat.le_refl _ | omega | (simp; done) | (simp; omega)) _))) hrn).mono ?_); rintro e w' ⟨rfl, x15, rfl⟩)) | (go_at_call 15; ((with_reducible refine (sameInts_self _ _ _ _ _ _ _ _ (oC.rd.below (by repeat (first | exact Below.refl _ _ | assumption | refine bExt ?_ _ | refine bAlloc ?_ _ | refine bDrewN ?_ _ | refine bDrew ?_ | refine bSet ?_ (by first | exact Nat.le_refl _ | omega | (simp; done) | (simp; omega)) _))) (oK.rd.below (by repeat (first | exact Below.refl _ _ | assumption | refine bExt ?_ _ | refine bAlloc ?_ _ | refine bDrewN ?_ _ | refine bDrew ?_ | refine bSet ?_ (by first | exact Nat.le_refl _ | omega | (simp; done) | (simp; omega)) _))) hcn).mono ?_); rintro e w' ⟨rfl, x16, rfl⟩)))
          have sJ := oJ.sl
          generalize hw6 : ext (ext (ext (ext wx x13) x14) x15) x16 = w6 at *
          have bW : Below wx.heap.size wx w6 := by rw [← hw6]; repeat (first | exact Below.refl _ _ | assumption | refine bExt ?_ _ | refine bAlloc ?_ _ | refine bDrewN ?_ _ | refine bDrew ?_ | refine bSet ?_ (by first | exact Nat.le_refl _ | omega | (simp; done) | (simp; omega)) _)
          have rR : RdT w6 R rn (joinL La Lb) := oR.rd.below (by rw [← hw6]; repeat (first | exact Below.refl _ _ | assumption | refine bExt ?_ _ | refine bAlloc ?_ _ | refine bDrewN ?_ _ | refine bDrew ?_ | refine bSet ?_ (by first | exact Nat.le_refl _ | omega | (simp; done) | (simp; omega)) _))
          have rC : RdI w6 C cn (joinC La Lb) := oC.rd.below (by rw [← hw6]; repeat (first | exact Below.refl _ _ | assumption | refine bExt ?_ _ | refine bAlloc ?_ _ | refine bDrewN ?_ _ | refine bDrew ?_ | refine bSet ?_ (by first | exact Nat.le_refl _ | omega | (simp; done) | (simp; omega)) _))
          have rJ : RdT w6 J jn (joinL La Lb) := oJ.rd.below (by rw [← hw6]; repeat (first | exact Below.refl _ _ | assumption | refine bExt ?_ _ | refine bAlloc ?_ _ | refine bDrewN ?_ _ | refine bDrew ?_ | refine bSet ?_ (by first | exact Nat.le_refl _ | omega | (simp; done) | (simp; omega)) _))
          have rA6 := rA.below bW
          have ha10 := ha9.below bW
          have BW8 := BW7.trans (bW.mono BW7.size)
          have hjn : jn ≤ 1099511627776 := by rw [← rJ.len]; exact Nat.le_trans (joinL_len _ _) (by omega)
          clear hw6 oR oC oJ oK rA rB ha9 bW BW7
          have HF := Lib.hid (@join_facts La Lb)
          go_cut [] (fun wq => Below w6.heap.size w6 wq)
          case first =>
            exact Nonempty.elim (α := type_of% ?k3) (letI i : Nonempty (type_of% ?k3) := ⟨by
              clear ha10 BW8
              generalize joinOk La Lb = ok at *
              cases ok
              · go_wp2
                go_meet
                exact Below.refl _ _
              · obtain ⟨hrec, hC, hle, htk⟩ := HF.out rfl
                clear HF
                rw [hC] at rC
                have hd := dmg_own hrec
                have hJs : ∀ s ∈ joinL La Lb, s.size ≤ 9223372036854775807 := fun s hs => Nat.le_trans ((recsB_of hrec).1 s hs) (by omega)
                have cd := implFirstDamage_any w6 R C rn cn rc cc (joinL La Lb) (chainV (joinL La Lb)) rR rC hrn hcn hJs
                rw [hd.1, hd.2, rJ.len] at cd
                rw [rJ.len, rA6.len] at hle
                rw [rA6.len] at htk
                have tJ := rJ.take_ n hle
                rw [htk] at tJ
                have hnc : n ≤ jc := Nat.le_trans hle sJ.2.1
                have hcm : jc ≤ 9223372036854775807 := Nat.le_trans sJ.2.2 (by simp only [maxLen]; omega)
                have hg : decide ((jn : Int) < n) = false := decide_eq_false (by omega)
                clear hd hC hrec hJs htk rC rR rJ hn hm
                rcases sJ.1 with ⟨rfl, rfl, rfl⟩ | ⟨gJ, rfl⟩
                · obtain rfl : n = 0 := by omega
                  clear sJ
                  go_wp2_with (first | (go_at_call 20; ((with_reducible refine (cd).mono ?_); rintro e w' ⟨rfl, y1, rfl⟩)) | (go_at_call 19; ((with_reducible refine (pSameNames_any _ _ _ _ _ _ _ _ (tJ.below (by repeat (first | exact Below.refl _ _ | assumption | refine bExt ?_ _ | refine bAlloc ?_ _ | refine bDrewN ?_ _ | refine bDrew ?_ | refine bSet ?_ (by first | exact Nat.le_refl _ | omega | (simp; done) | (simp; omega)) _))) (rA6.below (by repeat (first | exact Below.refl _ _ | assumption | refine bExt ?_ _ | refine bAlloc ?_ _ | refine bDrewN ?_ _ | refine bDrew ?_ | refine bSet ?_ (by first | exact Nat.le_refl _ | omega | (simp; done) | (simp; omega)) _))) hnb).mono ?_); rintro e w' ⟨rfl, y2, rfl⟩)))
                  go_meet
                  repeat (first | exact Below.refl _ _ | assumption | refine bExt ?_ _ | refine bAlloc ?_ _ | refine bDrewN ?_ _ | refine bDrew ?_ | refine bSet ?_ (by first | exact Nat.le_refl _ | omega | (simp; done) | (simp; omega)) _)
                · clear sJ
                  go_wp2_with (first | (go_at_call 20; ((with_reducible refine (cd).mono ?_); rintro e w' ⟨rfl, y1, rfl⟩)) | (go_at_call 19; ((with_reducible refine (pSameNames_any _ _ _ _ _ _ _ _ (tJ.below (by repeat (first | exact Below.refl _ _ | assumption | refine bExt ?_ _ | refine bAlloc ?_ _ | refine bDrewN ?_ _ | refine bDrew ?_ | refine bSet ?_ (by first | exact Nat.le_refl _ | omega | (simp; done) | (simp; omega)) _))) (rA6.below (by repeat (first | exact Below.refl _ _ | assumption | refine bExt ?_ _ | refine bAlloc ?_ _ | refine bDrewN ?_ _ | refine bDrew ?_ | refine bSet ?_ (by first | exact Nat.le_refl _ | omega | (simp; done) | (simp; omega)) _))) hnb).mono ?_); rintro e w' ⟨rfl, y2, rfl⟩)))
                  go_meet
                  repeat (first | exact Below.refl _ _ | assumption | refine bExt ?_ _ | refine bAlloc ?_ _ | refine bDrewN ?_ _ | refine bDrew ?_ | refine bSet ?_ (by first | exact Nat.le_refl _ | omega | (simp; done) | (simp; omega)) _)
              ⟩; by exact inferInstanceAs (Nonempty _)) (fun h => h)
          case rest =>
            exact Nonempty.elim (α := type_of% ?k4) (letI i : Nonempty (type_of% ?k4) := ⟨by
              have bz := hcut
              clear hcut
              rename World => w7
              have BW9 := BW8.trans (bz.mono BW8.size)
              have ha11 := ha10.below bz
              clear HF rR rC rJ rA6 cA sJ hn hm hnb hmb hrn hcn hjn hsa' hsb' BW8 ha10 bz
              go_wp2_with fail
              refine (drawExtendChain_any _ _ _ _ _ ha11 hm1).mono ?_
              rintro e wx ⟨D, q, z, L, s, x20, rfl, hq, hs, hwx, oD⟩
              rw [← hwx] at oD
              have rD : RdI wx D q L := oD.rd
              have bx : Below w7.heap.size w7 wx := by rw [hwx]; repeat (first | exact Below.refl _ _ | assumption | refine bExt ?_ _ | refine bAlloc ?_ _ | refine bDrewN ?_ _ | refine bDrew ?_ | refine bSet ?_ (by first | exact Nat.le_refl _ | omega | (simp; done) | (simp; omega)) _)
              have hqb : q ≤ 1099511627776 := by omega
              have hs' : s.size ≤ 9223372036854775807 := by omega
              have ha12 := ha11.below bx
              have BW10 := BW9.trans (bx.mono BW9.size)
              clear hwx oD ha11 bx BW9
              go_wp2_with fail
              refine (implExtendChain_any _ _ _ _ L s (rD.below (by repeat (first | exact Below.refl _ _ | assumption | refine bExt ?_ _ | refine bAlloc ?_ _ | refine bDrewN ?_ _ | refine bDrew ?_ | refine bSet ?_ (by first | exact Nat.le_refl _ | omega | (simp; done) | (simp; omega)) _))) hqb hs').mono ?_
              rintro e w1 ⟨E, en, ec, x21, rfl, rfl, oE⟩
              go_wp2_with fail
              refine (specExtendChain_any _ _ _ _ L s (rD.below (by repeat (first | exact Below.refl _ _ | assumption | refine bExt ?_ _ | refine bAlloc ?_ _ | refine bDrewN ?_ _ | refine bDrew ?_ | refine bSet ?_ (by first | exact Nat.le_refl _ | omega | (simp; done) | (simp; omega)) _))) hqb hs').mono ?_
              rintro e w1 ⟨X, xn, xc, x22, rfl, rfl, oX⟩
              have hen : en ≤ 1099511627776 := by rw [← oE.len]; exact Nat.le_trans (extV_len _ _) (by omega)
              go_wp2_with fail
              refine (drawLinkOf_any _ _ _ _ _ (ha12.below (by repeat (first | exact Below.refl _ _ | assumption | refine bExt ?_ _ | refine bAlloc ?_ _ | refine bDrewN ?_ _ | refine bDrew ?_ | refine bSet ?_ (by first | exact Nat.le_refl _ | omega | (simp; done) | (simp; omega)) _))) hm1).mono ?_
              rintro e w1 ⟨bf, tx, x23, rfl, htx, rfl⟩
              have htx' : tx.size ≤ 9223372036854775807 := by omega
              go_wp2_with fail
              refine (implLinkOf_any bf tx _ htx').mono ?_
              rintro e w1 ⟨rfl, rfl⟩
              go_wp2_with fail
              refine (specLinkOf_any bf tx _ htx').mono ?_
              rintro e w1 ⟨rfl, rfl⟩
              go_wp2_with ((go_at_call 15; ((with_reducible refine (sameInts_self _ _ _ _ _ _ _ _ (oE.rd.below (by repeat (first | exact Below.refl _ _ | assumption | refine bExt ?_ _ | refine bAlloc ?_ _ | refine bDrewN ?_ _ | refine bDrew ?_ | refine bSet ?_ (by first | exact Nat.le_refl _ | omega | (simp; done) | (simp; omega)) _))) (oX.rd.below (by repeat (first | exact Below.refl _ _ | assumption | refine bExt ?_ _ | refine bAlloc ?_ _ | refine bDrewN ?_ _ | refine bDrew ?_ | refine bSet ?_ (by first | exact Nat.le_refl _ | omega | (simp; done) | (simp; omega)) _))) hen).mono ?_); rintro e w' ⟨rfl, x24, rfl⟩)))
              go_ret
              exact ⟨by first | rfl | exact ret_bool (by simp), BW10.trans (Below.mono (by repeat (first | exact Below.refl _ _ | assumption | refine bExt ?_ _ | refine bAlloc ?_ _ | refine bDrewN ?_ _ | refine bDrew ?_ | refine bSet ?_ (by first | exact Nat.le_refl _ | omega | (simp; done) | (simp; omega)) _) : Below wx.heap.size wx _) BW10.size)⟩
              ⟩; by exact inferInstanceAs (Nonempty _)) (fun h => h)
          ⟩; by exact inferInstanceAs (Nonempty _)) (fun h => h)
      ⟩; by exact inferInstanceAs (Nonempty _)) (fun h => h)
set_option maxRecDepth 100000 in
theorem fnSeals_contract (H : Type) (enc : TypeId × Value → H) (W : World) (base : Nat) (args : Array Value) (ds gs : List (DataW H)) (before : List MemPlace)
    (hval : ∀ (j : Nat) t v, Tryd.f3.params[j]? = some t → args[j]? = some v → Value.okWide Tryd.prog W .any base t v)
    (hW : DataW.Whole enc Tryd.prog Tryd.f3.params.toList Rows.fnSealsSpec.vars false W args.toList ds gs before) (hL : Tab W) :
    Calls Tryd.prog 3 args W fun e W' => ∃ v, e = .returned v ∧ Rows.fnSealsSpec.post enc Tryd.prog Tryd.f3 false true false false W args v W' := by
  have hW' := hW
  obtain ⟨p, q, hA0, hV, rfl, hfz, hnd⟩ := hW
  have hA : DataW.TrodAll enc Tryd.prog W 0 (fun _ => true) true Tryd.f3.params.toList args.toList ds p := hA0
  have hAk := hA
  rw [Tryd.params3] at hA hval
  obtain ⟨v0, vs0, d0, ds0, p0, q0, hargs, rfl, rfl, h0, r0⟩ := trodAll_cons hA
  obtain ⟨v1, vs1, d1, ds1, p1, q1, rfl, rfl, rfl, h1, r1⟩ := trodAll_cons r0
  obtain ⟨rfl, rfl, rfl⟩ := trodAll_nil r1
  obtain rfl : args = #[v0, v1] := by cases args; simp_all
  obtain ⟨rfl, rfl⟩ := trodVars_none hV
  obtain ⟨A0, n0, c0, l0, rfl, g0, nc0, cm0⟩ := open_RdY (hval 0 22 v0 rfl rfl) h0
  obtain ⟨A1, n1, c1, l1, rfl, g1, nc1, cm1⟩ := open_RdY (hval 1 22 v1 rfl rfl) h1
  refine (law_Seals _ _ _ _ _ g0 (by simp only [maxLen] at cm0; omega) _ _ _ _ g1 (by simp only [maxLen] at cm1; omega) hL).mono fun e W' hh => ?_
  obtain ⟨he, bel⟩ := hh
  subst he
  exact ⟨_, rfl, _, _, _, [], _, [], hW', trodAll_mk1 (shut_bool Tryd.underlying4 _), trodAll_below laidOutAll bel _ _ _ _ (by rw [tsOk, Tryd.params3]; kernel_rfl) hAk, rfl, bel.frame _, fun h => by cases h⟩
theorem fnSeals_met (os : Os) : laidMet Tryd.prog Rows.fnSealsRow.laid ((laidWorld os).forCall (fun _ _ => 0) ⟨#[], #[.slice none 0 0, .slice none 0 0], []⟩).memory :=
  laidMet_of_run' 8 (by kernel_rfl) (by kernel_rfl)
theorem fnSeals_reads (os : Os) {H : Type} (enc : TypeId × Value → H) : ∃ places, DataW.whole enc Tryd.prog ((laidWorld os).forCall (fun _ _ => 0) ⟨#[], #[.slice none 0 0, .slice none 0 0], []⟩).memory Tryd.f3.params.toList Rows.fnSealsSpec.vars false (#[.slice none 0 0, .slice none 0 0] : Array Value).toList 8 = some ([.nil, .nil], [], places) :=
  ⟨[], by kernel_rfl⟩
set_option maxRecDepth 100000 in
theorem fnSeals_lifted (os : Os) (started : os.Started) (H : Type) (enc : TypeId × Value → H) (F : Stop.Interp) :
    ReturnsInHanded {} Tryd.checked os 3 .any ((OpenSpec.ofChange Rows.fnSealsSpec).preRow enc Tryd.prog Tryd.f3 Rows.fnSealsRow.domain false Rows.fnSealsRow.laid) (((OpenSpec.ofChange Rows.fnSealsSpec).at F).post enc Tryd.prog Tryd.f3 false true false false) := by
  obtain ⟨places, hx⟩ := fnSeals_reads os enc
  refine returnsInHanded_of_row (C := Tryd.checked) (s := OpenSpec.ofChange Rows.fnSealsSpec) own started (by kernel_rfl) Tryd.func3
    (witness_row_at (enc := enc) (C := Tryd.checked) false (laidWorld os) #[.slice none 0 0, .slice none 0 0] rfl (by kernel_rfl) (by kernel_rfl) (by kernel_rfl)
      (OpenSpec.preRow_of_cond 8 hx (by kernel_rfl) (fun k hk => by cases hk) (by kernel_rfl) (fnSeals_met os))) ?_
  intro W base args ds gs before hval hW _ _ _ hL _ _
  exact fnSeals_contract H enc W base args ds gs before hval hW (tab_of_laid hL)
theorem fnSeals_said : Rows.FnSealsSaid :=
  OpenClaim.holds_of_cond 3 Tryd.f3 rfl rfl rfl rfl rfl rfl rfl ⟨rfl, rfl, rfl, rfl, rfl⟩ rfl rfl rfl rfl rfl (by kernel_rfl) Tryd.func3 (by kernel_rfl)
    (of_decide_eq_true (by kernel_rfl)) (by unfold Func.isWrapper; first | (rw [if_pos (by decide +kernel)]; kernel_rfl) | (rw [if_neg (by decide +kernel)]; exact ⟨rfl, rfl⟩))
    (fun os started H enc _ F => by rw [OpenClaim.pre_eq_preRow]; exact fnSeals_lifted os started H enc F)
theorem fnSeals_plain (f : FuncId) (fn : Func) (hf : Tryd.pinned.checked.prog.funcNamed "loop.example/g00912/laws.FnSeals" = some f) (hfn : Tryd.pinned.checked.prog.funcs[f]? = some fn) :
    false = Tryd.pinned.checked.prog.looks [] ∧ ∀ (j : Nat) t, fn.params[j]? = some t → Tryd.pinned.checked.prog.wantsStandIn t = false := by
  obtain rfl : f = 3 := Option.some.inj ((show Tryd.prog.funcNamed "loop.example/g00912/laws.FnSeals" = some 3 by kernel_rfl).symm.trans hf) |>.symm
  obtain rfl : fn = Tryd.f3 := (Option.some.inj (Tryd.func3.symm.trans hfn)).symm
  refine ⟨by kernel_rfl, fun j t ht => ?_⟩
  have hall : ∀ t ∈ Tryd.f3.params.toList, Tryd.prog.wantsStandIn t = false := by rw [Tryd.params3]; intro t ht; simp at ht; first | (subst ht; kernel_rfl) | (rcases ht with rfl | rfl <;> kernel_rfl) | (rcases ht with rfl | rfl | rfl <;> kernel_rfl)
  exact hall t (Array.mem_toList_iff.2 (Array.mem_of_getElem? ht))
theorem fnSeals_holds : Rows.FnSealsCardSaid :=
  Claim7.holds_tied_plain_at .later [] _ _ _ _ fnSeals_said (fun _ h => by cases h) (by kernel_rfl) (fun _ h => by cases h) fnSeals_row_tie rfl ⟨rfl, rfl⟩ (by kernel_rfl) rfl fnSeals_plain (by kernel_rfl)
end Go.Proofs.YtpjaiihkgeabiaaDoor
