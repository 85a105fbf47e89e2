/- The law FnBoards returns true for every input. Conditions: none. -/
import Derived.Test.YtogglhgagblihaaZDraw15
import Derived.Test.YtogglhgagblihaaZBoardQ
import Derived.Test.YtogglhgagblihaaZCues6
import Derived.Test.YtogglhgagblihaaZBase
import Derived.Deep.RegionHeld3
import Derived.Deep.DeepCutAuto
set_option linter.unusedVariables false
set_option linter.unusedSimpArgs false
set_option maxRecDepth 100000
namespace Go.Proofs.Ytogglhgagblihaa
open Go.ChangeShapes Go.WideShapes Go.ChangeAt Go.RowKit
def RetAnyB (w : World) (e : Ending) (w' : World) : Prop := (∃ b, e = .returned (.bool b)) ∧ w = w'
theorem big_any (w : World) (A B : Option Addr) (n m c d : Nat) (hn : n ≤ 9223372036854775807) (hm : m ≤ 9223372036854775807) :
    Calls Try.prog 25 #[.slice A n c, .slice B m d] w (RetAnyB w) := by
  by_cases h1 : (1048576 : Int) < n
  · go_enter Try.func25, Try.ntmps25
    go_wp2
    go_ret
    exact ⟨⟨_, rfl⟩, rfl⟩
  · go_enter Try.func25, Try.ntmps25
    go_wp2
    go_ret
    exact ⟨⟨_, rfl⟩, rfl⟩
theorem pIn_no (w : World) (A : Option Addr) (n c : Nat) (l : List Int) (x : Int) (ha : RdI w A n l) (hn : n ≤ 1099511627776) (hx : hasB l x = false) :
    Calls Try.prog 34 #[.slice A n c, .int .i64 x] w fun e w' => e = .returned (.bool false) ∧ w' = w := by
  have hl := ha.len
  have hno : ∀ k : Nat, k < n → l[k]?.getD 0 ≠ x := fun k hk e => by
    have := hasB_iff.2 (e ▸ getD_mem 0 l k (by omega))
    rw [hx] at this; cases this
  go_enter Try.func34, Try.ntmps34
  go_wp2
  go_loop [6, 9] (fun _ i => ∃ k : Nat, k ≤ n ∧ i = .int .i64 k) (fun _ i => n - (intOf i).toNat)
  case atStart => exact ⟨0, by omega, rfl⟩
  case round =>
    obtain ⟨k, hk, rfl⟩ := hrel
    by_cases hlt : k < n
    · obtain ⟨b, o, rfl, hb, hc⟩ := ha.open_ (by omega)
      have hck := hc k hlt
      rw [List.getD_eq_getElem?_getD] at hck
      have hne := hno k hlt
      clear hc hno
      generalize l[k]?.getD 0 = v at *
      go_wp2
      go_round
      case rel => exact ⟨k + 1, by omega, by go_num⟩
      case measure => simp [intOf]; omega
    · go_wp2
      go_ret
      exact ⟨rfl, rfl⟩
theorem pIn_left {w : World} {A : Option Addr} {n c : Nat} {l : List Int} {x : Int} {q : Nat} (ha : RdI w A n l) (hn : n ≤ 1099511627776) (hx : hasB l x = false) :
    Calls Try.prog 34 #[.slice A n c, .int .i64 x] (w.drewN q) fun e w'' => e = .returned (.bool false) ∧ ∃ k, w'' = w.drewN k :=
  (pIn_no (w.drewN q) A n c l x (ha.below (bDrewN (Below.refl _ _) _)) hn hx).mono fun e w' ⟨he, hw⟩ => ⟨he, q, hw⟩
theorem sameInts_self (w : World) (A B : Option Addr) (n m c d : Nat) (l : List Int) (ha : RdI w A n l) (hb : RdI w B m l) (hn : n ≤ 1099511627776) :
    Calls Try.prog 31 #[.slice A n c, .slice B m d] w fun e w' => e = .returned (.bool true) ∧ ∃ x, w' = ext w x :=
  (sameInts_any w A B n m c d l l ha hb hn).mono fun e w' h => ⟨by rw [h.1, sameB_iff.2 rfl], h.2⟩
/-- The leader of the time before. -/
def lastL (l : List (Int × Int)) (a b c gap : Int) (S T : List Int) : Nat → Int
  | 0 => 0
  | k + 1 => ldV l a b c gap S (T[k]?.getD 0)
set_option maxHeartbeats 4000000 in
theorem law_Boards (w : World) (A0 : Option Addr) (n0 c0 : Nat) (l0 : List Int) (ha0 : RdY w A0 n0 l0) (hm0 : n0 ≤ 9223372036854775807) (A1 : Option Addr) (n1 c1 : Nat) (l1 : List Int) (ha1 : RdY w A1 n1 l1) (hm1 : n1 ≤ 9223372036854775807) :
    Calls Try.prog 4 #[.slice A0 n0 c0, .slice A1 n1 c1] w fun e w' => e = .returned (.bool true) ∧ Below w.heap.size w w' := by
  go_enter Try.func4, Try.ntmps4
  go_wp2_with fail
  refine (big_any _ _ _ _ _ _ _ hm0 hm1).mono ?_
  rintro e w1 ⟨⟨b, rfl⟩, rfl⟩
  cases b
  case true =>
    go_wp2
    go_ret
    exact ⟨rfl, by repeat (first | exact Below.refl _ _ | assumption | refine bExt ?_ _ | refine bAlloc ?_ _ | refine bDrewN ?_ _ | refine bDrew ?_ | refine bSet ?_ (by first | exact Nat.le_refl _ | omega | (simp; done) | (simp; omega)) _)⟩
  go_wp2_with fail
  refine (drawBoardAt_any _ _ _ _ _ ha0 hm0).mono ?_
  rintro e wx ⟨A, n, c, L, d0, d1, d2, d3, E, p, y, S, t, x1, rfl, hn, hp, hwx, oA, oE⟩
  rw [← hwx] at oA oE
  have cA := oA.cap_
  have rA : RdS wx A n L := oA.rd
  have rE : RdI wx E p S := oE.rd
  have bx : Below w.heap.size w wx := by rw [hwx]; repeat (first | exact Below.refl _ _ | assumption | refine bExt ?_ _ | refine bAlloc ?_ _ | refine bDrewN ?_ _ | refine bDrew ?_ | refine bSet ?_ (by first | exact Nat.le_refl _ | omega | (simp; done) | (simp; omega)) _)
  have hnb : n ≤ 1099511627776 := by omega
  have hpb : p ≤ 1099511627776 := by omega
  have ha2 : RdY wx A1 n1 l1 := ha1.below bx
  clear hwx oA oE ha0 ha1
  go_wp2_with fail
  have hdd := heap_alloc_new wx (.cells #[.int .i64 d0, .int .i64 d1, .int .i64 d2, .int .i64 d3] 25)
  refine (implBoardAt_any _ _ _ _ L d0 d1 d2 d3 t _ _ _ S (rA.below (by repeat (first | exact Below.refl _ _ | assumption | refine bExt ?_ _ | refine bAlloc ?_ _ | refine bDrewN ?_ _ | refine bDrew ?_ | refine bSet ?_ (by first | exact Nat.le_refl _ | omega | (simp; done) | (simp; omega)) _))) hnb (rE.below (by repeat (first | exact Below.refl _ _ | assumption | refine bExt ?_ _ | refine bAlloc ?_ _ | refine bDrewN ?_ _ | refine bDrew ?_ | refine bSet ?_ (by first | exact Nat.le_refl _ | omega | (simp; done) | (simp; omega)) _))) hpb cA.1).mono ?_
  rintro e w1 ⟨B, m, f, C, u, v, x2, rfl, rfl, oB, oC, -, -⟩
  go_wp2_with fail
  refine (specBoardAt_any _ _ _ _ L d0 d1 d2 d3 t _ _ _ S (rA.below (by repeat (first | exact Below.refl _ _ | assumption | refine bExt ?_ _ | refine bAlloc ?_ _ | refine bDrewN ?_ _ | refine bDrew ?_ | refine bSet ?_ (by first | exact Nat.le_refl _ | omega | (simp; done) | (simp; omega)) _))) hnb (rE.below (by repeat (first | exact Below.refl _ _ | assumption | refine bExt ?_ _ | refine bAlloc ?_ _ | refine bDrewN ?_ _ | refine bDrew ?_ | refine bSet ?_ (by first | exact Nat.le_refl _ | omega | (simp; done) | (simp; omega)) _))) hpb).mono ?_
  rintro e w1 ⟨B2, m2, f2, C2, u2, v2, x3, rfl, rfl, oB2, oC2, -, -⟩
  go_wp2_with fail
  refine (implLeaderAt_any _ _ _ _ L d0 d1 d2 d3 t _ _ _ S (rA.below (by repeat (first | exact Below.refl _ _ | assumption | refine bExt ?_ _ | refine bAlloc ?_ _ | refine bDrewN ?_ _ | refine bDrew ?_ | refine bSet ?_ (by first | exact Nat.le_refl _ | omega | (simp; done) | (simp; omega)) _))) hnb (rE.below (by repeat (first | exact Below.refl _ _ | assumption | refine bExt ?_ _ | refine bAlloc ?_ _ | refine bDrewN ?_ _ | refine bDrew ?_ | refine bSet ?_ (by first | exact Nat.le_refl _ | omega | (simp; done) | (simp; omega)) _))) hpb cA.1).mono ?_
  rintro e w1 ⟨x4, rfl, rfl⟩
  go_wp2_with fail
  refine (specLeaderAt_any _ _ _ _ L d0 d1 d2 d3 t _ _ _ S (rA.below (by repeat (first | exact Below.refl _ _ | assumption | refine bExt ?_ _ | refine bAlloc ?_ _ | refine bDrewN ?_ _ | refine bDrew ?_ | refine bSet ?_ (by first | exact Nat.le_refl _ | omega | (simp; done) | (simp; omega)) _))) hnb (rE.below (by repeat (first | exact Below.refl _ _ | assumption | refine bExt ?_ _ | refine bAlloc ?_ _ | refine bDrewN ?_ _ | refine bDrew ?_ | refine bSet ?_ (by first | exact Nat.le_refl _ | omega | (simp; done) | (simp; omega)) _))) hpb).mono ?_
  rintro e w1 ⟨x5, rfl, rfl⟩
  have hm : m ≤ 1099511627776 := by rw [← oB.len]; exact Nat.le_trans (boS_len _ _ _ _ _ _ _) (by rw [rA.len]; exact hnb)
  have hu : u ≤ 1099511627776 := by rw [← oC.len]; exact Nat.le_trans (boK_len _ _ _ _ _ _ _) (by rw [rA.len]; exact hnb)
  go_upto_region 8 with fail
  generalize hw1 : ext (ext (ext (ext (wx.alloc (.cells #[.int .i64 d0, .int .i64 d1, .int .i64 d2, .int .i64 d3] 25)) x2) x3) x4) x5 = w1 at *
  have bW : Below wx.heap.size wx w1 := by rw [← hw1]; repeat (first | exact Below.refl _ _ | assumption | refine bExt ?_ _ | refine bAlloc ?_ _ | refine bDrewN ?_ _ | refine bDrew ?_ | refine bSet ?_ (by first | exact Nat.le_refl _ | omega | (simp; done) | (simp; omega)) _)
  have rB : RdI w1 B m (boS L d0 d1 d2 d3 S t) := oB.rd.below (by rw [← hw1]; repeat (first | exact Below.refl _ _ | assumption | refine bExt ?_ _ | refine bAlloc ?_ _ | refine bDrewN ?_ _ | refine bDrew ?_ | refine bSet ?_ (by first | exact Nat.le_refl _ | omega | (simp; done) | (simp; omega)) _))
  have rC : RdI w1 C u (boK L d0 d1 d2 d3 S t) := oC.rd.below (by rw [← hw1]; repeat (first | exact Below.refl _ _ | assumption | refine bExt ?_ _ | refine bAlloc ?_ _ | refine bDrewN ?_ _ | refine bDrew ?_ | refine bSet ?_ (by first | exact Nat.le_refl _ | omega | (simp; done) | (simp; omega)) _))
  have rB2 : RdI w1 B2 m2 (boS L d0 d1 d2 d3 S t) := oB2.rd.below (by rw [← hw1]; repeat (first | exact Below.refl _ _ | assumption | refine bExt ?_ _ | refine bAlloc ?_ _ | refine bDrewN ?_ _ | refine bDrew ?_ | refine bSet ?_ (by first | exact Nat.le_refl _ | omega | (simp; done) | (simp; omega)) _))
  have rC2 : RdI w1 C2 u2 (boK L d0 d1 d2 d3 S t) := oC2.rd.below (by rw [← hw1]; repeat (first | exact Below.refl _ _ | assumption | refine bExt ?_ _ | refine bAlloc ?_ _ | refine bDrewN ?_ _ | refine bDrew ?_ | refine bSet ?_ (by first | exact Nat.le_refl _ | omega | (simp; done) | (simp; omega)) _))
  have hdw := heap_old hdd (show Below (wx.alloc (.cells #[.int .i64 d0, .int .i64 d1, .int .i64 d2, .int .i64 d3] 25)).heap.size (wx.alloc (.cells #[.int .i64 d0, .int .i64 d1, .int .i64 d2, .int .i64 d3] 25)) w1 by rw [← hw1]; repeat (first | exact Below.refl _ _ | assumption | refine bExt ?_ _ | refine bAlloc ?_ _ | refine bDrewN ?_ _ | refine bDrew ?_ | refine bSet ?_ (by first | exact Nat.le_refl _ | omega | (simp; done) | (simp; omega)) _))
  have rA1 := rA.below bW
  have BW : Below w.heap.size w w1 := bx.trans (bW.mono bx.size)
  have ha3 := ha2.below bW
  have HF := Lib.hid (@board_facts L d0 d1 d2 d3 t S)
  have HN : Hid (boB L d0 d1 d2 d3 S t = false → ldB L d0 d1 d2 d3 S t = false) := Lib.hid (fun h => by simp [ldB, h])
  clear hw1 oB oC oB2 oC2 hdd rA rE hpb bW bx ha2 hp
  generalize wx.heap.size = p0 at *
  generalize boB L d0 d1 d2 d3 S t = ok at *
  generalize ldB L d0 d1 d2 d3 S t = one at *
  go_cut [123] (fun z wz => z = .bool false ∧ Below w1.heap.size w1 wz)
  case first =>
    clear rA1 BW ha3 cA hdw
    cases ok
    · obtain rfl := HN.out rfl
      go_wp2_with (first | (go_at_call 31; ((with_reducible refine (sameInts_self _ _ _ _ _ _ _ _ (rB.below (by repeat (first | exact Below.refl _ _ | assumption | refine bExt ?_ _ | refine bAlloc ?_ _ | refine bDrewN ?_ _ | refine bDrew ?_ | refine bSet ?_ (by first | exact Nat.le_refl _ | omega | (simp; done) | (simp; omega)) _))) (rB2.below (by repeat (first | exact Below.refl _ _ | assumption | refine bExt ?_ _ | refine bAlloc ?_ _ | refine bDrewN ?_ _ | refine bDrew ?_ | refine bSet ?_ (by first | exact Nat.le_refl _ | omega | (simp; done) | (simp; omega)) _))) hm).mono ?_); rintro e w' ⟨rfl, x6, rfl⟩)) | (go_at_call 31; ((with_reducible refine (sameInts_self _ _ _ _ _ _ _ _ (rC.below (by repeat (first | exact Below.refl _ _ | assumption | refine bExt ?_ _ | refine bAlloc ?_ _ | refine bDrewN ?_ _ | refine bDrew ?_ | refine bSet ?_ (by first | exact Nat.le_refl _ | omega | (simp; done) | (simp; omega)) _))) (rC2.below (by repeat (first | exact Below.refl _ _ | assumption | refine bExt ?_ _ | refine bAlloc ?_ _ | refine bDrewN ?_ _ | refine bDrew ?_ | refine bSet ?_ (by first | exact Nat.le_refl _ | omega | (simp; done) | (simp; omega)) _))) hu).mono ?_); rintro e w' ⟨rfl, x7, rfl⟩)))
      go_meet
      exact ⟨rfl, by repeat (first | exact Below.refl _ _ | assumption | refine bExt ?_ _ | refine bAlloc ?_ _ | refine bDrewN ?_ _ | refine bDrew ?_ | refine bSet ?_ (by first | exact Nat.le_refl _ | omega | (simp; done) | (simp; omega)) _)⟩
    · have hone := (HF.out rfl).2.2.2.1
      rw [rB2.len] at hone
      clear HF HN
      rcases Nat.eq_zero_or_pos m2 with h0 | h0
      · obtain rfl : one = false := by rw [hone]; simp [h0]
        have h0' : ¬ (0 : Int) < m2 := by omega
        clear hone h0
        go_wp2_with (first | (go_at_call 31; ((with_reducible refine (sameInts_self _ _ _ _ _ _ _ _ (rB.below (by repeat (first | exact Below.refl _ _ | assumption | refine bExt ?_ _ | refine bAlloc ?_ _ | refine bDrewN ?_ _ | refine bDrew ?_ | refine bSet ?_ (by first | exact Nat.le_refl _ | omega | (simp; done) | (simp; omega)) _))) (rB2.below (by repeat (first | exact Below.refl _ _ | assumption | refine bExt ?_ _ | refine bAlloc ?_ _ | refine bDrewN ?_ _ | refine bDrew ?_ | refine bSet ?_ (by first | exact Nat.le_refl _ | omega | (simp; done) | (simp; omega)) _))) hm).mono ?_); rintro e w' ⟨rfl, x6, rfl⟩)) | (go_at_call 31; ((with_reducible refine (sameInts_self _ _ _ _ _ _ _ _ (rC.below (by repeat (first | exact Below.refl _ _ | assumption | refine bExt ?_ _ | refine bAlloc ?_ _ | refine bDrewN ?_ _ | refine bDrew ?_ | refine bSet ?_ (by first | exact Nat.le_refl _ | omega | (simp; done) | (simp; omega)) _))) (rC2.below (by repeat (first | exact Below.refl _ _ | assumption | refine bExt ?_ _ | refine bAlloc ?_ _ | refine bDrewN ?_ _ | refine bDrew ?_ | refine bSet ?_ (by first | exact Nat.le_refl _ | omega | (simp; done) | (simp; omega)) _))) hu).mono ?_); rintro e w' ⟨rfl, x7, rfl⟩)))
        go_meet
        exact ⟨by rw [decide_eq_false (by omega)], by repeat (first | exact Below.refl _ _ | assumption | refine bExt ?_ _ | refine bAlloc ?_ _ | refine bDrewN ?_ _ | refine bDrew ?_ | refine bSet ?_ (by first | exact Nat.le_refl _ | omega | (simp; done) | (simp; omega)) _)⟩
      · obtain rfl : one = true := by rw [hone]; simp [h0]
        have h0' : (0 : Int) < m2 := by omega
        clear hone h0
        go_wp2_with (first | (go_at_call 31; ((with_reducible refine (sameInts_self _ _ _ _ _ _ _ _ (rB.below (by repeat (first | exact Below.refl _ _ | assumption | refine bExt ?_ _ | refine bAlloc ?_ _ | refine bDrewN ?_ _ | refine bDrew ?_ | refine bSet ?_ (by first | exact Nat.le_refl _ | omega | (simp; done) | (simp; omega)) _))) (rB2.below (by repeat (first | exact Below.refl _ _ | assumption | refine bExt ?_ _ | refine bAlloc ?_ _ | refine bDrewN ?_ _ | refine bDrew ?_ | refine bSet ?_ (by first | exact Nat.le_refl _ | omega | (simp; done) | (simp; omega)) _))) hm).mono ?_); rintro e w' ⟨rfl, x6, rfl⟩)) | (go_at_call 31; ((with_reducible refine (sameInts_self _ _ _ _ _ _ _ _ (rC.below (by repeat (first | exact Below.refl _ _ | assumption | refine bExt ?_ _ | refine bAlloc ?_ _ | refine bDrewN ?_ _ | refine bDrew ?_ | refine bSet ?_ (by first | exact Nat.le_refl _ | omega | (simp; done) | (simp; omega)) _))) (rC2.below (by repeat (first | exact Below.refl _ _ | assumption | refine bExt ?_ _ | refine bAlloc ?_ _ | refine bDrewN ?_ _ | refine bDrew ?_ | refine bSet ?_ (by first | exact Nat.le_refl _ | omega | (simp; done) | (simp; omega)) _))) hu).mono ?_); rintro e w' ⟨rfl, x7, rfl⟩)))
        go_meet
        exact ⟨by rw [decide_eq_true (show 0 < m2 by omega)]; rfl, by repeat (first | exact Below.refl _ _ | assumption | refine bExt ?_ _ | refine bAlloc ?_ _ | refine bDrewN ?_ _ | refine bDrew ?_ | refine bSet ?_ (by first | exact Nat.le_refl _ | omega | (simp; done) | (simp; omega)) _)⟩
  case rest =>
    exact Nonempty.elim (α := type_of% ?k5) (letI i : Nonempty (type_of% ?k5) := ⟨by
      obtain ⟨rfl, bz⟩ := hcut
      rename World => w2
      have BW2 := BW.trans (bz.mono BW.size)
      have rA2 := rA1.below bz
      have rB3 := rB2.below bz
      have rC3 := rC2.below bz
      have hd2 := heap_old hdw bz
      have ha4 := ha3.below bz
      clear rA1 rB rC rB2 rC2 hdw ha3 BW bz hm hu HN
      go_upto_if 124 with fail
      go_cut [] (fun wq => Below w2.heap.size w2 wq)
      case first =>
        exact Nonempty.elim (α := type_of% ?k1) (letI i : Nonempty (type_of% ?k1) := ⟨by
          clear ha4 BW2
          cases ok
          · go_wp2
            go_meet
            exact Below.refl _ _
          · obtain ⟨hice, hSK, hsum, hone, hlead, hfall, hno⟩ := HF.out rfl
            clear HF
            have hlA := rA2.len
            have hlB := rB3.len
            have hlC := rC3.len
            have e1 := fun W (h : Below w2.heap.size w2 W) => implStillToCome_any W A n c L d0 d1 d2 d3 t (rA2.below h) hnb cA.1
            have e2 := fun W (h : Below w2.heap.size w2 W) => specStillToCome_any W A n c L d0 d1 d2 d3 t (rA2.below h) hnb
            simp only [hice] at e1 e2
            have hsl : (stV L d0 d1 d2 d3 t).length ≤ 40 := stV_len _ _ _ _ _ _
            obtain rfl : m2 = u2 := by omega
            rw [hlB] at hone hlead hfall hno
            rw [hlA, hlB] at hsum
            clear hSK hlA hlB hlC hice
            generalize boS L d0 d1 d2 d3 S t = VB at *
            generalize boK L d0 d1 d2 d3 S t = VK at *
            generalize stV L d0 d1 d2 d3 t = VS at *
            generalize ldV L d0 d1 d2 d3 S t = ld at *
            have Hsum := Lib.hid hsum
            have Hone := Lib.hid hone
            clear hsum hone
            obtain ⟨⟨q0, q1, q2, q3⟩, q4, q5, q6, q7⟩ := blk4 hd2
            have hp0 : p0 < w2.heap.size := (Array.getElem?_eq_some_iff.1 hd2).1
            go_upto_region 13 with (first | (go_at_call 32; ((with_reducible refine (e1 _ (by repeat (first | exact Below.refl _ _ | assumption | refine bExt ?_ _ | refine bAlloc ?_ _ | refine bDrewN ?_ _ | refine bDrew ?_ | refine bSet ?_ (by first | exact Nat.le_refl _ | omega | (simp; done) | (simp; omega)) _))).mono ?_); rintro e w' ⟨X, xn, xc, y1, rfl, rfl, oX⟩)) | (go_at_call 33; ((with_reducible refine (e2 _ (by repeat (first | exact Below.refl _ _ | assumption | refine bExt ?_ _ | refine bAlloc ?_ _ | refine bDrewN ?_ _ | refine bDrew ?_ | refine bSet ?_ (by first | exact Nat.le_refl _ | omega | (simp; done) | (simp; omega)) _))).mono ?_); rintro e w' ⟨Y, yn, yc, y2, rfl, rfl, oY⟩)))
            have hX : xn ≤ 1099511627776 := by rw [← oX.len]; omega
            have hY : yn ≤ 40 := by rw [← oY.len]; omega
            have hsum : (yn : Int) + m2 = n := by have := Hsum.out; rw [oY.len] at this; omega
            have rX := oX.rd.below (ext_below _ y2)
            have rY := oY.rd
            have bq : Below w2.heap.size w2 (ext (ext w2 y1) y2) := by repeat (first | exact Below.refl _ _ | assumption | refine bExt ?_ _ | refine bAlloc ?_ _ | refine bDrewN ?_ _ | refine bDrew ?_ | refine bSet ?_ (by first | exact Nat.le_refl _ | omega | (simp; done) | (simp; omega)) _)
            have rB5 := rB3.below bq
            have rC5 := rC3.below bq
            clear e1 e2 oX oY q0 q1 q2 q3 q4 q5 q6 q7 hp0 hd2 rA2 rB3 rC3 hsl Hsum
            generalize ext (ext w2 y1) y2 = w5 at *
            have hm2 : m2 ≤ 1000 := by omega
            go_cut [170] (fun z wz => z = .bool false ∧ Below w5.heap.size w5 wz)
            case first =>
              clear rC5 hfall hno bq
              rcases Nat.eq_zero_or_pos m2 with h0 | h0
              · obtain rfl : one = false := by rw [Hone.out]; simp [h0]
                clear Hone h0 hlead
                go_wp2_with ((go_at_call 31; ((with_reducible refine (sameInts_self _ _ _ _ _ _ _ _ rX rY hX).mono ?_); rintro e w' ⟨rfl, x6, rfl⟩)))
                go_meet
                exact ⟨rfl, by repeat (first | exact Below.refl _ _ | assumption | refine bExt ?_ _ | refine bAlloc ?_ _ | refine bDrewN ?_ _ | refine bDrew ?_ | refine bSet ?_ (by first | exact Nat.le_refl _ | omega | (simp; done) | (simp; omega)) _)⟩
              · obtain rfl : one = true := by rw [Hone.out]; simp [h0]
                obtain ⟨bB, oB, rfl, hbB, hcB⟩ := rB5.open_ h0
                have hb0 := hcB 0 h0
                rw [List.getD_eq_getElem?_getD, Nat.add_zero] at hb0
                have hl0 := hlead h0
                rw [← hl0] at hb0
                have h0' : (0 : Int) < m2 := by omega
                clear Hone hlead hl0 hcB
                go_wp2_with ((go_at_call 31; ((with_reducible refine (sameInts_self _ _ _ _ _ _ _ _ rX rY hX).mono ?_); rintro e w' ⟨rfl, x6, rfl⟩)))
                go_meet
                exact ⟨rfl, by repeat (first | exact Below.refl _ _ | assumption | refine bExt ?_ _ | refine bAlloc ?_ _ | refine bDrewN ?_ _ | refine bDrew ?_ | refine bSet ?_ (by first | exact Nat.le_refl _ | omega | (simp; done) | (simp; omega)) _)⟩
            case rest =>
              obtain ⟨rfl, bz⟩ := hcut
              rename World => w6
              have rB6 := rB5.below bz
              have rC6 := rC5.below bz
              have rY6 := rY.below bz
              have bq6 := bq.trans (bz.mono bq.size)
              have hyb : yn ≤ 1099511627776 := by omega
              clear rB5 rC5 rX rY bq bz hX hlead Hone hsum
              go_wp2_with fail
              go_loopw [23, 173] (fun _ ix wr => ∃ k : Nat, k ≤ m2 ∧ ix = .int .i64 k ∧ Below w6.heap.size w6 wr) (fun _ ix _ => m2 - (intOf ix).toNat)
              case atStart => exact ⟨0, by omega, rfl, Below.refl _ _⟩
              case round =>
                obtain ⟨k, hk, rfl, hbl⟩ := hrel
                by_cases hlt : k < m2
                · obtain ⟨bB, oB, rfl, hbB, hcB⟩ := (rB6.below hbl).open_ (by omega)
                  obtain ⟨bC, oC, rfl, hbC, hcC⟩ := (rC6.below hbl).open_ (by omega)
                  have rYk := rY6.below hbl
                  have hbk := hcB k hlt
                  have hck := hcC k hlt
                  rw [List.getD_eq_getElem?_getD] at hbk hck
                  have hnk := hno k hlt
                  have hkI : (k : Int) < m2 := by omega
                  by_cases hk0 : k = 0
                  · subst hk0
                    have hk00 : ¬ (0 : Int) < ((0 : Nat) : Int) := by omega
                    rw [Nat.add_zero] at hbk hck
                    clear hcB hcC hno hfall
                    generalize VB[0]?.getD 0 = vb at *
                    generalize VK[0]?.getD 0 = vc at *
                    go_wp2
                    go_big_quiet ((go_at_call 34; exact pIn_left rYk hyb hnk))
                    go_wp2
                    go_roundw
                    case rel => exact ⟨0 + 1, by omega, by go_num, by repeat (first | exact Below.refl _ _ | assumption | refine bExt ?_ _ | refine bAlloc ?_ _ | refine bDrewN ?_ _ | refine bDrew ?_ | refine bSet ?_ (by first | exact Nat.le_refl _ | omega | (simp; done) | (simp; omega)) _)⟩
                    case measure => simp [intOf]; omega
                  · obtain ⟨j, hj⟩ : ∃ j, k = j + 1 := ⟨k - 1, by omega⟩
                    have hcj := hcC j (by omega)
                    rw [List.getD_eq_getElem?_getD] at hcj
                    have hfj := hfall j (by omega)
                    rw [← hj] at hfj
                    have hI : (k : Int) - 1 = j := by omega
                    have hkp : (0 : Int) < k := by omega
                    have hjm : (j : Int) < m2 := by omega
                    clear hcB hcC hno hfall hj hk0
                    generalize VB[k]?.getD 0 = vb at *
                    generalize VK[k]?.getD 0 = vc at *
                    generalize VK[j]?.getD 0 = vj at *
                    have hdd : decide (vj < vc) = false := decide_eq_false (by omega)
                    go_wp2
                    have hkp2 : (0 : Int) < k := by omega
                    have hkp3 : 0 < k := by omega
                    have hkp4 : decide ((0 : Int) < k) = true := decide_eq_true hkp2
                    have hwI : IntKind.i64.wrap ((k : Int) - 1) = j := by rw [IntWalk.i64_in _ (by omega)]; omega
                    have hjm2 : (j : Int) < m2 := by omega
                    have hkm2 : (k : Int) < m2 := by omega
                    have hdd2 : decide (vj < vc) = false := decide_eq_false (by omega)
                    go_big_quiet ((go_at_call 34; exact pIn_left rYk hyb hnk))
                    go_wp2
                    go_roundw
                    case rel => exact ⟨k + 1, by omega, by go_num, by repeat (first | exact Below.refl _ _ | assumption | refine bExt ?_ _ | refine bAlloc ?_ _ | refine bDrewN ?_ _ | refine bDrew ?_ | refine bSet ?_ (by first | exact Nat.le_refl _ | omega | (simp; done) | (simp; omega)) _)⟩
                    case measure => simp [intOf]; omega
                · go_wp2
                  go_meet
                  exact bq6.trans (hbl.mono bq6.size)
          ⟩; by exact inferInstanceAs (Nonempty _)) (fun h => h)
      case rest =>
        exact Nonempty.elim (α := type_of% ?k4) (letI i : Nonempty (type_of% ?k4) := ⟨by
          have bz := hcut
          clear hcut
          rename World => w3
          have BW3 := BW2.trans (bz.mono BW2.size)
          have ha5 := ha4.below bz
          clear HF rA2 rB3 rC3 hd2 ha4 BW2 bz cA hnb hn
          go_wp2_with fail
          refine (drawLeaderTimes_any _ _ _ _ _ ha5 hm1).mono ?_
          rintro e wx ⟨F, fn, fc, M, b0, b1, b2, b3, G, gn, gc, Z, x6, rfl, hfn, hgn, hwx, oF, oG⟩
          rw [← hwx] at oF oG
          have cF := oF.cap_
          have rF : RdS wx F fn M := oF.rd
          have rG : RdI wx G gn Z := oG.rd
          have bx : Below w3.heap.size w3 wx := by rw [hwx]; repeat (first | exact Below.refl _ _ | assumption | refine bExt ?_ _ | refine bAlloc ?_ _ | refine bDrewN ?_ _ | refine bDrew ?_ | refine bSet ?_ (by first | exact Nat.le_refl _ | omega | (simp; done) | (simp; omega)) _)
          have hfb : fn ≤ 1099511627776 := by omega
          have hgb : gn ≤ 1099511627776 := by omega
          have ha6 : RdY wx A1 n1 l1 := ha5.below bx
          have BWx := BW3.trans (bx.mono BW3.size)
          clear hwx oF oG ha5 bx BW3 hgn
          go_wp2_with fail
          have hdd := heap_alloc_new wx (.cells #[.int .i64 b0, .int .i64 b1, .int .i64 b2, .int .i64 b3] 25)
          refine (implLeaderTimes_any _ _ _ _ M b0 b1 b2 b3 _ _ _ Z (rF.below (by repeat (first | exact Below.refl _ _ | assumption | refine bExt ?_ _ | refine bAlloc ?_ _ | refine bDrewN ?_ _ | refine bDrew ?_ | refine bSet ?_ (by first | exact Nat.le_refl _ | omega | (simp; done) | (simp; omega)) _))) hfb (rG.below (by repeat (first | exact Below.refl _ _ | assumption | refine bExt ?_ _ | refine bAlloc ?_ _ | refine bDrewN ?_ _ | refine bDrew ?_ | refine bSet ?_ (by first | exact Nat.le_refl _ | omega | (simp; done) | (simp; omega)) _))) hgb cF.1).mono ?_
          rintro e w1 ⟨H, hln, hlc, x7, rfl, rfl, oH⟩
          go_wp2_with fail
          refine (specLeaderTimes_any _ _ _ _ M b0 b1 b2 b3 _ _ _ Z (rF.below (by repeat (first | exact Below.refl _ _ | assumption | refine bExt ?_ _ | refine bAlloc ?_ _ | refine bDrewN ?_ _ | refine bDrew ?_ | refine bSet ?_ (by first | exact Nat.le_refl _ | omega | (simp; done) | (simp; omega)) _))) hfb (rG.below (by repeat (first | exact Below.refl _ _ | assumption | refine bExt ?_ _ | refine bAlloc ?_ _ | refine bDrewN ?_ _ | refine bDrew ?_ | refine bSet ?_ (by first | exact Nat.le_refl _ | omega | (simp; done) | (simp; omega)) _))) hgb).mono ?_
          rintro e w1 ⟨K, kn, kc, x8, rfl, rfl, oK⟩
          have hh : hln ≤ 1099511627776 := by rw [← oH.len]; exact Nat.le_trans (ltV_len _ _ _ _ _ _) (by omega)
          have hkb : kn ≤ 160 := by rw [← oK.len]; exact ltV_len _ _ _ _ _ _
          go_upto_if 228 with ((go_at_call 31; ((with_reducible refine (sameInts_self _ _ _ _ _ _ _ _ (oH.rd.below (by repeat (first | exact Below.refl _ _ | assumption | refine bExt ?_ _ | refine bAlloc ?_ _ | refine bDrewN ?_ _ | refine bDrew ?_ | refine bSet ?_ (by first | exact Nat.le_refl _ | omega | (simp; done) | (simp; omega)) _))) (oK.rd.below (by repeat (first | exact Below.refl _ _ | assumption | refine bExt ?_ _ | refine bAlloc ?_ _ | refine bDrewN ?_ _ | refine bDrew ?_ | refine bSet ?_ (by first | exact Nat.le_refl _ | omega | (simp; done) | (simp; omega)) _))) hh).mono ?_); rintro e w' ⟨rfl, x9, rfl⟩)))
          generalize hw4 : ext (ext (ext (wx.alloc (.cells #[.int .i64 b0, .int .i64 b1, .int .i64 b2, .int .i64 b3] 25)) x7) x8) x9 = w4 at *
          have bW : Below wx.heap.size wx w4 := by rw [← hw4]; repeat (first | exact Below.refl _ _ | assumption | refine bExt ?_ _ | refine bAlloc ?_ _ | refine bDrewN ?_ _ | refine bDrew ?_ | refine bSet ?_ (by first | exact Nat.le_refl _ | omega | (simp; done) | (simp; omega)) _)
          have rK : RdI w4 K kn (ltV M b0 b1 b2 b3 Z) := oK.rd.below (by rw [← hw4]; repeat (first | exact Below.refl _ _ | assumption | refine bExt ?_ _ | refine bAlloc ?_ _ | refine bDrewN ?_ _ | refine bDrew ?_ | refine bSet ?_ (by first | exact Nat.le_refl _ | omega | (simp; done) | (simp; omega)) _))
          have hd4 := heap_old hdd (show Below (wx.alloc (.cells #[.int .i64 b0, .int .i64 b1, .int .i64 b2, .int .i64 b3] 25)).heap.size (wx.alloc (.cells #[.int .i64 b0, .int .i64 b1, .int .i64 b2, .int .i64 b3] 25)) w4 by rw [← hw4]; repeat (first | exact Below.refl _ _ | assumption | refine bExt ?_ _ | refine bAlloc ?_ _ | refine bDrewN ?_ _ | refine bDrew ?_ | refine bSet ?_ (by first | exact Nat.le_refl _ | omega | (simp; done) | (simp; omega)) _))
          have rF4 := rF.below bW
          have rG4 := rG.below bW
          have BW4 := BWx.trans (bW.mono BWx.size)
          have ha7 := ha6.below bW
          have HL := Lib.hid (@lead_facts M b0 b1 b2 b3 Z)
          clear hw4 oH oK hdd rF rG bW BWx ha6 hh
          generalize wx.heap.size = p1 at *
          generalize scB M b0 b1 b2 b3 Z = three at *
          go_cut [] (fun wq => Below w4.heap.size w4 wq)
          case first =>
            exact Nonempty.elim (α := type_of% ?k2) (letI i : Nonempty (type_of% ?k2) := ⟨by
              clear ha7 BW4
              cases three
              · go_wp2
                go_meet
                exact Below.refl _ _
              · obtain ⟨hl1, hB, hst⟩ := HL.out rfl
                clear HL
                have hlK := rK.len
                rw [hlK] at hl1 hB hst
                generalize ltV M b0 b1 b2 b3 Z = T at *
                have hp1 : p1 < w4.heap.size := (Array.getElem?_eq_some_iff.1 hd4).1
                clear hlK
                go_wp2_with fail
                go_loopw [31, 32, 33, 34, 35, 36, 37, 231] (fun lv _ _ _ _ _ _ ix wr => ∃ k : Nat, k ≤ kn ∧ ix = .int .i64 k ∧ lv = .int .i64 (lastL M b0 b1 b2 b3 Z T k) ∧ Below w4.heap.size w4 wr) (fun _ _ _ _ _ _ _ ix _ => kn - (intOf ix).toNat)
                case atStart => exact ⟨0, by omega, rfl, rfl, Below.refl _ _⟩
                case round =>
                  obtain ⟨k, hk, rfl, rfl, hbl⟩ := hrel
                  by_cases hlt : k < kn
                  · obtain ⟨bK, oK, rfl, hbK, hcK⟩ := (rK.below hbl).open_ (by omega)
                    have hck := hcK k hlt
                    rw [List.getD_eq_getElem?_getD] at hck
                    have hBk := hB k hlt
                    obtain ⟨⟨q0, q1, q2, q3⟩, q4, q5, q6, q7⟩ := blk4 (heap_old hd4 hbl)
                    have hp1' := Nat.lt_of_lt_of_le hp1 hbl.size
                    have rFk := rF4.below hbl
                    have rGk := rG4.below hbl
                    have HV : Hid (lastL M b0 b1 b2 b3 Z T (k + 1) = ldV M b0 b1 b2 b3 Z (T[k]?.getD 0)) := Lib.hid rfl
                    have ci := fun W (h : Below _ _ W) => implLeaderAt_any W F fn fc M b0 b1 b2 b3 (T[k]?.getD 0) G gn gc Z (rFk.below h) hfb (rGk.below h) hgb cF.1
                    have cs := fun W (h : Below _ _ W) => specLeaderAt_any W F fn fc M b0 b1 b2 b3 (T[k]?.getD 0) G gn gc Z (rFk.below h) hfb (rGk.below h) hgb
                    simp only [hBk] at ci cs
                    have hkI : (k : Int) < kn := by omega
                    by_cases hk0 : k = 0
                    · subst hk0
                      have hk00 : ¬ (0 : Int) < ((0 : Nat) : Int) := by omega
                      rw [Nat.add_zero] at hck
                      clear hcK hB hst hBk
                      generalize ldV M b0 b1 b2 b3 Z (T[0]?.getD 0) = v at *
                      generalize T[0]?.getD 0 = tk at *
                      rw [show lastL M b0 b1 b2 b3 Z T 0 = 0 from rfl]
                      go_wp2_with (first | (go_at_call 29; ((with_reducible refine (ci _ (by repeat (first | exact Below.refl _ _ | assumption | refine bExt ?_ _ | refine bAlloc ?_ _ | refine bDrewN ?_ _ | refine bDrew ?_ | refine bSet ?_ (by first | exact Nat.le_refl _ | omega | (simp; done) | (simp; omega)) _))).mono ?_); rintro e w' ⟨y1, rfl, rfl⟩)) | (go_at_call 30; ((with_reducible refine (cs _ (by repeat (first | exact Below.refl _ _ | assumption | refine bExt ?_ _ | refine bAlloc ?_ _ | refine bDrewN ?_ _ | refine bDrew ?_ | refine bSet ?_ (by first | exact Nat.le_refl _ | omega | (simp; done) | (simp; omega)) _))).mono ?_); rintro e w' ⟨y2, rfl, rfl⟩)))
                      go_roundw
                      case rel => exact ⟨0 + 1, by omega, by go_num, congrArg (Value.int .i64) (by rw [HV.out]), by repeat (first | exact Below.refl _ _ | assumption | refine bExt ?_ _ | refine bAlloc ?_ _ | refine bDrewN ?_ _ | refine bDrew ?_ | refine bSet ?_ (by first | exact Nat.le_refl _ | omega | (simp; done) | (simp; omega)) _)⟩
                      case measure => simp [intOf]; omega
                    · obtain ⟨j, hj⟩ : ∃ j, k = j + 1 := ⟨k - 1, by omega⟩
                      have hcj := hcK j (by omega)
                      rw [List.getD_eq_getElem?_getD] at hcj
                      obtain ⟨hs1, hs2⟩ := hst j (by omega)
                      rw [← hj] at hs1 hs2
                      have hI : (k : Int) - 1 = j := by omega
                      have hkp : (0 : Int) < k := by omega
                      have hjm : (j : Int) < kn := by omega
                      have eL : lastL M b0 b1 b2 b3 Z T k = ldV M b0 b1 b2 b3 Z (T[j]?.getD 0) := by rw [hj]; rfl
                      rw [eL]
                      clear hcK hB hst hBk hj hk0 eL
                      generalize ldV M b0 b1 b2 b3 Z (T[k]?.getD 0) = v at *
                      generalize ldV M b0 b1 b2 b3 Z (T[j]?.getD 0) = vj at *
                      generalize T[k]?.getD 0 = tk at *
                      generalize T[j]?.getD 0 = tj at *
                      have hd1 : decide (v = vj) = false := decide_eq_false hs2
                      have hd2 : decide (tk ≤ tj) = false := decide_eq_false (by omega)
                      go_wp2_with (first | (go_at_call 29; ((with_reducible refine (ci _ (by repeat (first | exact Below.refl _ _ | assumption | refine bExt ?_ _ | refine bAlloc ?_ _ | refine bDrewN ?_ _ | refine bDrew ?_ | refine bSet ?_ (by first | exact Nat.le_refl _ | omega | (simp; done) | (simp; omega)) _))).mono ?_); rintro e w' ⟨y1, rfl, rfl⟩)) | (go_at_call 30; ((with_reducible refine (cs _ (by repeat (first | exact Below.refl _ _ | assumption | refine bExt ?_ _ | refine bAlloc ?_ _ | refine bDrewN ?_ _ | refine bDrew ?_ | refine bSet ?_ (by first | exact Nat.le_refl _ | omega | (simp; done) | (simp; omega)) _))).mono ?_); rintro e w' ⟨y2, rfl, rfl⟩)))
                      all_goals
                        go_roundw
                        case rel => exact ⟨k + 1, by omega, by go_num, congrArg (Value.int .i64) (by rw [HV.out]), by repeat (first | exact Below.refl _ _ | assumption | refine bExt ?_ _ | refine bAlloc ?_ _ | refine bDrewN ?_ _ | refine bDrew ?_ | refine bSet ?_ (by first | exact Nat.le_refl _ | omega | (simp; done) | (simp; omega)) _)⟩
                        case measure => simp [intOf]; omega
                  · have hkn0 : ¬ (kn : Int) = 0 := by omega
                    go_wp2
                    go_meet
                    exact hbl
              ⟩; by exact inferInstanceAs (Nonempty _)) (fun h => h)
          case rest =>
            exact Nonempty.elim (α := type_of% ?k3) (letI i : Nonempty (type_of% ?k3) := ⟨by
              have bz := hcut
              clear hcut
              rename World => w5
              have BW5 := BW4.trans (bz.mono BW4.size)
              have ha8 := ha7.below bz
              clear HL rK hd4 rF4 rG4 BW4 ha7 bz cF hfb hgb
              go_wp2_with fail
              refine (drawNextUp_any _ _ _ _ _ ha8 hm1).mono ?_
              rintro e wx ⟨Y, yn, yc, Q, a0, a1, a2, a3, s, x9, rfl, hyn, hwx, oY⟩
              rw [← hwx] at oY
              have cY := oY.cap_
              have rY : RdS wx Y yn Q := oY.rd
              have hyb : yn ≤ 1099511627776 := by omega
              have bx : Below w5.heap.size w5 wx := by rw [hwx]; repeat (first | exact Below.refl _ _ | assumption | refine bExt ?_ _ | refine bAlloc ?_ _ | refine bDrewN ?_ _ | refine bDrew ?_ | refine bSet ?_ (by first | exact Nat.le_refl _ | omega | (simp; done) | (simp; omega)) _)
              have BW6 := BW5.trans (bx.mono BW5.size)
              clear hwx oY bx BW5 ha8
              go_wp2_with (first | (go_at_call 39; ((with_reducible refine (implNextUp_any _ _ _ _ Q a0 a1 a2 a3 s (rY.below (by repeat (first | exact Below.refl _ _ | assumption | refine bExt ?_ _ | refine bAlloc ?_ _ | refine bDrewN ?_ _ | refine bDrew ?_ | refine bSet ?_ (by first | exact Nat.le_refl _ | omega | (simp; done) | (simp; omega)) _))) hyb cY.1).mono ?_); rintro e w' ⟨y1, rfl, rfl⟩)) | (go_at_call 40; ((with_reducible refine (specNextUp_any _ _ _ _ Q a0 a1 a2 a3 s (rY.below (by repeat (first | exact Below.refl _ _ | assumption | refine bExt ?_ _ | refine bAlloc ?_ _ | refine bDrewN ?_ _ | refine bDrew ?_ | refine bSet ?_ (by first | exact Nat.le_refl _ | omega | (simp; done) | (simp; omega)) _))) hyb).mono ?_); rintro e w' ⟨y2, rfl, rfl⟩)))
              go_ret
              exact ⟨by first | rfl | exact ret_bool (by simp), BW6.trans (Below.mono (by repeat (first | exact Below.refl _ _ | assumption | refine bExt ?_ _ | refine bAlloc ?_ _ | refine bDrewN ?_ _ | refine bDrew ?_ | refine bSet ?_ (by first | exact Nat.le_refl _ | omega | (simp; done) | (simp; omega)) _)) BW6.size)⟩
              ⟩; by exact inferInstanceAs (Nonempty _)) (fun h => h)
          ⟩; by exact inferInstanceAs (Nonempty _)) (fun h => h)
      ⟩; by exact inferInstanceAs (Nonempty _)) (fun h => h)
set_option maxRecDepth 100000 in
theorem fnBoards_lifted (os : Os) (started : os.Started) (H : Type) (enc : TypeId × Value → H) :
    ReturnsInHanded {} Try.checked os 4 .any (Rows.fnBoardsSpec.pre6 enc Try.prog Try.f4 Rows.fnBoardsRow.domain false) (Rows.fnBoardsSpec.post enc Try.prog Try.f4 false true false false) := by
  refine returnsInHanded_of_change (C := Try.checked) ownKnobNone started (by kernel_rfl) Try.func4
    (ChangeSpec.witness6 (enc := enc) (C := Try.checked) false ⟨#[], #[.slice none 0 0, .slice none 0 0], []⟩ 8 (by kernel_rfl) (by kernel_rfl) (by kernel_rfl) (by kernel_rfl)) ?_
  intro W base args ds gs before hval0 hW hcnd _
  have hval : ∀ (j : Nat) t v, Try.f4.params[j]? = some t → args[j]? = some v → Value.okWide Try.prog W .any base t v := hval0
  have hW' := hW
  obtain ⟨p, q, hA0, hV, rfl, hfz, hnd⟩ := hW
  have hA : DataW.TrodAll enc Try.prog W 0 (fun _ => true) true Try.f4.params.toList args.toList ds p := hA0
  have hAk := hA
  rw [Try.params4] at hA hval
  obtain ⟨v0, vs0, d0, ds0, p0, q0, hargs, rfl, rfl, h0, r0⟩ := trodAll_cons hA
  obtain ⟨v1, vs1, d1, ds1, p1, q1, rfl, rfl, rfl, h1, r1⟩ := trodAll_cons r0
  obtain ⟨rfl, rfl, rfl⟩ := trodAll_nil r1
  obtain rfl : args = #[v0, v1] := by cases args; simp_all
  obtain ⟨rfl, rfl⟩ := trodVars_none hV
  obtain ⟨A0, n0, c0, l0, rfl, g0, nc0, cm0⟩ := open_RdY (hval 0 22 v0 rfl rfl) h0
  obtain ⟨A1, n1, c1, l1, rfl, g1, nc1, cm1⟩ := open_RdY (hval 1 22 v1 rfl rfl) h1
  refine (law_Boards _ _ _ _ _ g0 (by simp only [maxLen] at cm0; omega) _ _ _ _ g1 (by simp only [maxLen] at cm1; omega)).mono fun e W' hh => ?_
  obtain ⟨he, bel⟩ := hh
  subst he
  exact ⟨_, rfl, _, _, _, [], _, [], hW', trodAll_mk1 (shut_bool Try.underlying4 _), trodAll_below laidOutAll bel _ _ _ _ (by rw [tsOk, Try.params4]; kernel_rfl) hAk, rfl, bel.frame _, fun h => by cases h⟩
theorem fnBoards_holds : Rows.FnBoardsSaid :=
  OpenClaim.holds_of_wide 4 Try.f4 rfl rfl rfl rfl rfl rfl rfl ⟨rfl, rfl, rfl, rfl, rfl⟩ rfl rfl rfl rfl rfl (by kernel_rfl) Try.func4 (by kernel_rfl)
    (of_decide_eq_true (by kernel_rfl)) (by unfold Func.isWrapper; first | (rw [if_pos (by decide +kernel)]; kernel_rfl) | (rw [if_neg (by decide +kernel)]; exact ⟨rfl, rfl⟩))
    (fun os started H enc _ => fnBoards_lifted os started H enc)
end Go.Proofs.Ytogglhgagblihaa
