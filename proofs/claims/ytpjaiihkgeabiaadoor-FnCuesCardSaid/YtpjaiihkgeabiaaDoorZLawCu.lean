/- The law FnCues returns true for every input: its row and its tied card. Conditions: none of ours. -/
import Derived.Test.YtpjaiihkgeabiaaDoorCards
import Derived.Test.YtpjaiihkgeabiaaDoorTie
import Derived.Test.YtpjaiihkgeabiaaDoorZDrawB
import Derived.Test.YtpjaiihkgeabiaaDoorZCues45
import Derived.Test.YtpjaiihkgeabiaaDoorZDoor
import Derived.Test.YtpjaiihkgeabiaaDoorInts
import Derived.Test.YtpjaiihkgeabiaaDoorZMisc
import Derived.Test.YtpjaiihkgeabiaaDoorLawKit
import Derived.Deep.RegionHeld3
import Derived.Deep.DeepCutAuto
set_option linter.unusedVariables false
set_option linter.unusedSimpArgs false
set_option maxRecDepth 100000
namespace Go.Proofs.YtpjaiihkgeabiaaDoor
open Go.ChangeShapes Go.WideShapes Go.ChangeAt Go.RowKit
def RetAnyB (w : World) (e : Ending) (w' : World) : Prop := (∃ b, e = .returned (.bool b)) ∧ w = w'
theorem big_any (w : World) (A B : Option Addr) (n m c d : Nat) (hn : n ≤ 9223372036854775807) (hm : m ≤ 9223372036854775807) :
    Calls Tryd.prog 5 #[.slice A n c, .slice B m d] w (RetAnyB w) := by
  by_cases h1 : (1048576 : Int) < n
  · go_enter Tryd.func5, Tryd.ntmps5
    go_wp2
    go_ret
    exact ⟨⟨_, rfl⟩, rfl⟩
  · go_enter Tryd.func5, Tryd.ntmps5
    go_wp2
    go_ret
    exact ⟨⟨_, rfl⟩, rfl⟩
set_option maxHeartbeats 1000000 in
theorem pSame_any (w : World) (A B : Option Addr) (n m c d : Nat) (l : List T3) (ha : Rd3 w A n l) (hb : Rd3 w B m l) (hn : n ≤ 1099511627776) :
    Calls Tryd.prog 30 #[.slice A n c, .slice B m d] w fun e w' => e = .returned (.bool true) ∧ ∃ q, w' = w.drewN q := by
  obtain rfl : n = m := ha.len.symm.trans hb.len
  go_enter Tryd.func30, Tryd.ntmps30
  go_wp2
  go_loopw [5, 13] (fun _ i wr => ∃ k q, k ≤ n ∧ i = .int .i64 (k : Nat) ∧ wr = w.drewN q) (fun _ i _ => n - (intOf i).toNat)
  case atStart => exact ⟨0, 0, Nat.zero_le _, rfl, rfl⟩
  case round =>
    obtain ⟨k, q, hk, rfl, rfl⟩ := hrel
    by_cases hlt : k < n
    · obtain ⟨b1, o1, rfl, hb1, hc1, hc2, hc3⟩ := ha.at_ k hlt
      obtain ⟨b2, o2, rfl, hb2, hd1, hd2, hd3⟩ := hb.at_ k hlt
      generalize l[k]?.getD z3 = sk at *
      go_wp2
      go_quiet (fail)
      go_wp2
      go_roundw
      case rel => exact ⟨k + 1, _, by omega, by go_num, rfl⟩
      case measure => simp [intOf]; omega
    · go_wp2
      go_ret
      exact ⟨rfl, _, rfl⟩
theorem pSame_left {w : World} {A B : Option Addr} {n m c d : Nat} {l : List T3} {q : Nat} (ha : Rd3 w A n l) (hb : Rd3 w B m l) (hn : n ≤ 1099511627776) :
    Calls Tryd.prog 30 #[.slice A n c, .slice B m d] (w.drewN q) fun e w'' => e = .returned (.bool true) ∧ ∃ k, w'' = w.drewN k :=
  (pSame_any (w.drewN q) A B n m c d l (ha.below (bDrewN (Below.refl _ _) _)) (hb.below (bDrewN (Below.refl _ _) _)) hn).mono fun e w' ⟨he, k, hk⟩ => ⟨he, q + k, by rw [hk, World.drewN_drewN]⟩
theorem pSame_x (w : World) (A B : Option Addr) (n m c d : Nat) (l : List T3) (ha : Rd3 w A n l) (hb : Rd3 w B m l) (hn : n ≤ 1099511627776) :
    Calls Tryd.prog 30 #[.slice A n c, .slice B m d] w fun e w' => e = .returned (.bool true) ∧ ∃ x, w' = ext w x :=
  (pSame_any w A B n m c d l ha hb hn).mono fun e w' ⟨he, q, hq⟩ => ⟨he, by subst hq; exact ext_ex (bDrewN (Below.refl _ _) _)⟩
theorem sameInts_self (w : World) (A B : Option Addr) (n m c d : Nat) (l : List Int) (ha : RdI w A n l) (hb : RdI w B m l) (hn : n ≤ 1099511627776) :
    Calls Tryd.prog 15 #[.slice A n c, .slice B m d] w fun e w' => e = .returned (.bool true) ∧ ∃ x, w' = ext w x :=
  (sameInts_any w A B n m c d l l ha hb hn).mono fun e w' h => ⟨by rw [h.1, sameB_iff.2 rfl], h.2⟩
set_option maxHeartbeats 4000000 in
theorem law_Cues (w : World) (A0 : Option Addr) (n0 c0 : Nat) (l0 : List Int) (ha0 : RdY w A0 n0 l0) (hm0 : n0 ≤ 9223372036854775807) (A1 : Option Addr) (n1 c1 : Nat) (l1 : List Int) (ha1 : RdY w A1 n1 l1) (hm1 : n1 ≤ 9223372036854775807) (hT0 : Tab w) :
    Calls Tryd.prog 4 #[.slice A0 n0 c0, .slice A1 n1 c1] w fun e w' => e = .returned (.bool true) ∧ Below w.heap.size w w' := by
  go_enter Tryd.func4, Tryd.ntmps4
  go_wp2_with fail
  refine (big_any _ _ _ _ _ _ _ hm0 hm1).mono ?_
  rintro e w1 ⟨⟨b, rfl⟩, rfl⟩
  cases b
  case true =>
    go_wp2
    go_ret
    exact ⟨rfl, by repeat (first | exact Below.refl _ _ | assumption | refine bExt ?_ _ | refine bAlloc ?_ _ | refine bDrewN ?_ _ | refine bDrew ?_ | refine bSet ?_ (by first | exact Nat.le_refl _ | omega | (simp; done) | (simp; omega)) _)⟩
  go_wp2_with fail
  refine (drawCuesOf_any _ _ _ _ _ ha0 hm0).mono ?_
  rintro e wx ⟨A, n, c, L, d0, d1, d2, d3, x1, rfl, hn, hwx, oA⟩
  rw [← hwx] at oA
  have cA := oA.cap_
  have rA : RdS wx A n L := oA.rd
  have bx : Below w.heap.size w wx := by rw [hwx]; repeat (first | exact Below.refl _ _ | assumption | refine bExt ?_ _ | refine bAlloc ?_ _ | refine bDrewN ?_ _ | refine bDrew ?_ | refine bSet ?_ (by first | exact Nat.le_refl _ | omega | (simp; done) | (simp; omega)) _)
  have hnb : n ≤ 1099511627776 := by omega
  have ha2 : RdY wx A1 n1 l1 := ha1.below bx
  have hT : Tab wx := hT0.below bx
  clear hwx oA ha0 ha1 hT0
  go_wp2_with fail
  have hdd := heap_alloc_new wx (.cells #[.int .i64 d0, .int .i64 d1, .int .i64 d2, .int .i64 d3] 53)
  refine (implCuesOf_any _ _ _ _ L d0 d1 d2 d3 (rA.below (by repeat (first | exact Below.refl _ _ | assumption | refine bExt ?_ _ | refine bAlloc ?_ _ | refine bDrewN ?_ _ | refine bDrew ?_ | refine bSet ?_ (by first | exact Nat.le_refl _ | omega | (simp; done) | (simp; omega)) _))) hnb cA.1).mono ?_
  rintro e w1 ⟨B, m, f, x2, rfl, rfl, oB⟩
  go_wp2_with fail
  refine (specCuesOf_any _ _ _ _ L d0 d1 d2 d3 (rA.below (by repeat (first | exact Below.refl _ _ | assumption | refine bExt ?_ _ | refine bAlloc ?_ _ | refine bDrewN ?_ _ | refine bDrew ?_ | refine bSet ?_ (by first | exact Nat.le_refl _ | omega | (simp; done) | (simp; omega)) _))) hnb).mono ?_
  rintro e w1 ⟨C, u, v, x3, rfl, rfl, oC⟩
  have hm : m ≤ 1099511627776 := bd3 oB (Nat.le_trans (cuV_len _ _ _ _ _) (by omega))
  go_upto_if 76 with ((go_at_call 30; ((with_reducible refine (pSame_x _ _ _ _ _ _ _ _ (oB.rd.below (by repeat (first | exact Below.refl _ _ | assumption | refine bExt ?_ _ | refine bAlloc ?_ _ | refine bDrewN ?_ _ | refine bDrew ?_ | refine bSet ?_ (by first | exact Nat.le_refl _ | omega | (simp; done) | (simp; omega)) _))) (oC.rd.below (by repeat (first | exact Below.refl _ _ | assumption | refine bExt ?_ _ | refine bAlloc ?_ _ | refine bDrewN ?_ _ | refine bDrew ?_ | refine bSet ?_ (by first | exact Nat.le_refl _ | omega | (simp; done) | (simp; omega)) _))) hm).mono ?_); rintro e w' ⟨rfl, x4, rfl⟩)))
  generalize hw1 : ext (ext (ext (wx.alloc (.cells #[.int .i64 d0, .int .i64 d1, .int .i64 d2, .int .i64 d3] 53)) x2) x3) x4 = w1 at *
  have bW : Below wx.heap.size wx w1 := by rw [← hw1]; repeat (first | exact Below.refl _ _ | assumption | refine bExt ?_ _ | refine bAlloc ?_ _ | refine bDrewN ?_ _ | refine bDrew ?_ | refine bSet ?_ (by first | exact Nat.le_refl _ | omega | (simp; done) | (simp; omega)) _)
  have rC : Rd3 w1 C u (cuV L d0 d1 d2 d3) := oC.rd.below (by rw [← hw1]; repeat (first | exact Below.refl _ _ | assumption | refine bExt ?_ _ | refine bAlloc ?_ _ | refine bDrewN ?_ _ | refine bDrew ?_ | refine bSet ?_ (by first | exact Nat.le_refl _ | omega | (simp; done) | (simp; omega)) _))
  have hdw := heap_old hdd (show Below (wx.alloc (.cells #[.int .i64 d0, .int .i64 d1, .int .i64 d2, .int .i64 d3] 53)).heap.size (wx.alloc (.cells #[.int .i64 d0, .int .i64 d1, .int .i64 d2, .int .i64 d3] 53)) w1 by rw [← hw1]; repeat (first | exact Below.refl _ _ | assumption | refine bExt ?_ _ | refine bAlloc ?_ _ | refine bDrewN ?_ _ | refine bDrew ?_ | refine bSet ?_ (by first | exact Nat.le_refl _ | omega | (simp; done) | (simp; omega)) _))
  have rA1 := rA.below bW
  have BW : Below w.heap.size w w1 := bx.trans (bW.mono bx.size)
  have ha3 := ha2.below bW
  have hT1 := hT.below bW
  have HF := Lib.hid (@cues_facts L d0 d1 d2 d3)
  clear hw1 oB oC hdd rA bW bx ha2 hT hm
  generalize wx.heap.size = p0 at *
  go_cut [] (fun wq => Below w1.heap.size w1 wq)
  case first =>
    exact Nonempty.elim (α := type_of% ?k1) (letI i : Nonempty (type_of% ?k1) := ⟨by
      clear ha3 BW
      generalize hok : timedB L d0 d1 d2 d3 = ok at *
      have Hok := Lib.hid hok
      clear hok
      cases ok
      · go_wp2
        go_meet
        exact Below.refl _ _
      · obtain ⟨hV, hcnt, hwl, hord, hcue⟩ := HF.out rfl
        clear HF hV
        have e1 := fun W (h : Below w1.heap.size w1 W) => implWarmUpTimes_any W A n c L d0 d1 d2 d3 (rA1.below h) hnb cA.1
        have e2 := fun W (h : Below w1.heap.size w1 W) => specWarmUpTimes_any W A n c L d0 d1 d2 d3 (rA1.below h) hnb
        simp only [Hok.out] at e1 e2
        rw [rA1.len, rC.len] at hcnt
        rw [rC.len] at hord hcue
        generalize warmsV L d0 d1 d2 d3 = VW at *
        generalize cuV L d0 d1 d2 d3 = VC at *
        have Hcnt := Lib.hid hcnt
        clear hcnt
        obtain ⟨⟨q0, q1, q2, q3⟩, q4, q5, q6, q7⟩ := blk4 hdw
        have hp0 : p0 < w1.heap.size := (Array.getElem?_eq_some_iff.1 hdw).1
        go_upto_region 11 with (first | (go_at_call 31; ((with_reducible refine (e1 _ (by repeat (first | exact Below.refl _ _ | assumption | refine bExt ?_ _ | refine bAlloc ?_ _ | refine bDrewN ?_ _ | refine bDrew ?_ | refine bSet ?_ (by first | exact Nat.le_refl _ | omega | (simp; done) | (simp; omega)) _))).mono ?_); rintro e w' ⟨X, xn, xc, y1, rfl, rfl, oX⟩)) | (go_at_call 32; ((with_reducible refine (e2 _ (by repeat (first | exact Below.refl _ _ | assumption | refine bExt ?_ _ | refine bAlloc ?_ _ | refine bDrewN ?_ _ | refine bDrew ?_ | refine bSet ?_ (by first | exact Nat.le_refl _ | omega | (simp; done) | (simp; omega)) _))).mono ?_); rintro e w' ⟨Y, yn, yc, y2, rfl, rfl, oY⟩)))
        have hX : xn ≤ 1099511627776 := by rw [← oX.len]; omega
        have hY : yn ≤ 40 := by rw [← oY.len]; omega
        have hcnt : (3 : Int) * n + yn = u := by have := Hcnt.out; rw [oY.len] at this; omega
        have hub : u ≤ 1000 := by omega
        have e3 : IntKind.i64.wrap (3 * (n : Int)) = 3 * n := IntWalk.i64_in _ (by omega)
        clear e1 e2 Hcnt hdw rA1 cA
        go_wp2_with ((go_at_call 15; ((with_reducible refine (sameInts_self _ _ _ _ _ _ _ _ (oX.rd.below (by repeat (first | exact Below.refl _ _ | assumption | refine bExt ?_ _ | refine bAlloc ?_ _ | refine bDrewN ?_ _ | refine bDrew ?_ | refine bSet ?_ (by first | exact Nat.le_refl _ | omega | (simp; done) | (simp; omega)) _))) (oY.rd.below (by repeat (first | exact Below.refl _ _ | assumption | refine bExt ?_ _ | refine bAlloc ?_ _ | refine bDrewN ?_ _ | refine bDrew ?_ | refine bSet ?_ (by first | exact Nat.le_refl _ | omega | (simp; done) | (simp; omega)) _))) hX).mono ?_); rintro e w' ⟨rfl, y3, rfl⟩)))
        have bq : Below w1.heap.size w1 (ext (ext (ext w1 y1) y2) y3) := by repeat (first | exact Below.refl _ _ | assumption | refine bExt ?_ _ | refine bAlloc ?_ _ | refine bDrewN ?_ _ | refine bDrew ?_ | refine bSet ?_ (by first | exact Nat.le_refl _ | omega | (simp; done) | (simp; omega)) _)
        have rC5 := rC.below bq
        have hT5 := hT1.below bq
        clear oX oY q0 q1 q2 q3 q4 q5 q6 q7 hp0 rC hT1 hX
        generalize ext (ext (ext w1 y1) y2) y3 = w5 at *
        go_loopw [15, 16, 17, 18, 19, 20, 114] (fun _ _ _ _ _ _ ix wr => ∃ k : Nat, k ≤ u ∧ ix = .int .i64 k ∧ Below w5.heap.size w5 wr) (fun _ _ _ _ _ _ ix _ => u - (intOf ix).toNat)
        case atStart => exact ⟨0, by omega, rfl, Below.refl _ _⟩
        case round =>
          obtain ⟨k, hk, rfl, hbl⟩ := hrel
          by_cases hlt : k < u
          · obtain ⟨bC, oC, rfl, hbC, hC0, hC1, hC2⟩ := (rC5.below hbl).at_ k hlt
            have hv := hcue k hlt
            have ci := fun W (h : Below wr.heap.size wr W) => implCueText_any (VC[k]?.getD z3).1 (VC[k]?.getD z3).2.1 (VC[k]?.getD z3).2.2 W ((hT5.below hbl).below h)
            have cs := fun W => specCueText_any (VC[k]?.getD z3).1 (VC[k]?.getD z3).2.1 (VC[k]?.getD z3).2.2 W
            simp only [hv] at ci cs
            have hkI : (k : Int) < u := by omega
            by_cases hk0 : k = 0
            · subst hk0
              rw [Nat.zero_mul, Nat.add_zero] at hC0 hC1 hC2
              clear hord hcue hv
              generalize (VC[0]?.getD z3).1 = t at *
              generalize (VC[0]?.getD z3).2.1 = kk at *
              generalize (VC[0]?.getD z3).2.2 = s at *
              go_wp2_with (first | (go_at_call 33; ((with_reducible refine (ci _ (by repeat (first | exact Below.refl _ _ | assumption | refine bExt ?_ _ | refine bAlloc ?_ _ | refine bDrewN ?_ _ | refine bDrew ?_ | refine bSet ?_ (by first | exact Nat.le_refl _ | omega | (simp; done) | (simp; omega)) _))).mono ?_); rintro e w' ⟨y4, rfl, rfl⟩)) | (go_at_call 34; ((with_reducible refine (cs _).mono ?_); rintro e w' ⟨y5, rfl, rfl⟩)))
              go_big_quiet (fail)
              go_wp2
              go_roundw
              case rel => exact ⟨0 + 1, by omega, by go_num, by repeat (first | exact Below.refl _ _ | assumption | refine bExt ?_ _ | refine bAlloc ?_ _ | refine bDrewN ?_ _ | refine bDrew ?_ | refine bSet ?_ (by first | exact Nat.le_refl _ | omega | (simp; done) | (simp; omega)) _)⟩
              case measure => simp [intOf]; omega
            · obtain ⟨j, hj⟩ : ∃ j, k = j + 1 := ⟨k - 1, by omega⟩
              obtain ⟨bC', oC', hbe, hbC', hD0, hD1, hD2⟩ := (rC5.below hbl).at_ j (by omega)
              injection hbe with hbe
              injection hbe with hbe1 hbe2
              subst hbe1 hbe2
              have hle := hord j (by omega)
              rw [← hj] at hle
              have hj1 : k ≤ j + 1 := by omega
              have hj2 : j + 1 ≤ k := by omega
              clear hord hcue hv hj hk0 hD1 hD2
              generalize (VC[j]?.getD z3).1 = tj at *
              generalize (VC[k]?.getD z3).1 = t at *
              generalize (VC[k]?.getD z3).2.1 = kk at *
              generalize (VC[k]?.getD z3).2.2 = s at *
              go_wp2_with (first | (go_at_call 33; ((with_reducible refine (ci _ (by repeat (first | exact Below.refl _ _ | assumption | refine bExt ?_ _ | refine bAlloc ?_ _ | refine bDrewN ?_ _ | refine bDrew ?_ | refine bSet ?_ (by first | exact Nat.le_refl _ | omega | (simp; done) | (simp; omega)) _))).mono ?_); rintro e w' ⟨y4, rfl, rfl⟩)) | (go_at_call 34; ((with_reducible refine (cs _).mono ?_); rintro e w' ⟨y5, rfl, rfl⟩)))
              have hkp2 : (0 : Int) < k := by omega
              have hkp3 : 0 < k := by omega
              have hkp4 : decide ((0 : Int) < k) = true := decide_eq_true hkp2
              have hwI : IntKind.i64.wrap ((k : Int) - 1) = j := by rw [IntWalk.i64_in _ (by omega)]; omega
              have hjm2 : (j : Int) < u := by omega
              have hdd2 : decide (t < tj) = false := decide_eq_false (by omega)
              go_big_quiet (fail)
              go_wp2
              go_roundw
              case rel => exact ⟨k + 1, by omega, by go_num, by repeat (first | exact Below.refl _ _ | assumption | refine bExt ?_ _ | refine bAlloc ?_ _ | refine bDrewN ?_ _ | refine bDrew ?_ | refine bSet ?_ (by first | exact Nat.le_refl _ | omega | (simp; done) | (simp; omega)) _)⟩
              case measure => simp [intOf]; omega
          · go_wp2
            go_meet
            exact bq.trans (hbl.mono bq.size)
      ⟩; by exact inferInstanceAs (Nonempty _)) (fun h => h)
  case rest =>
    exact Nonempty.elim (α := type_of% ?k6) (letI i : Nonempty (type_of% ?k6) := ⟨by
      have bz := hcut
      clear hcut
      rename World => w2
      have BW2 := BW.trans (bz.mono BW.size)
      have ha4 := ha3.below bz
      have hT2 := hT1.below bz
      clear HF rC rA1 hdw cA hnb hn BW ha3 hT1 bz
      go_wp2_with fail
      refine (drawCuesBetween_any _ _ _ _ _ ha4 hm1).mono ?_
      rintro e wx ⟨F, fn, fc, M, b0, b1, b2, b3, fr, tt, x5, rfl, hfn, hwx, oF⟩
      rw [← hwx] at oF
      have cF := oF.cap_
      have rF : RdS wx F fn M := oF.rd
      have bx : Below w2.heap.size w2 wx := by rw [hwx]; repeat (first | exact Below.refl _ _ | assumption | refine bExt ?_ _ | refine bAlloc ?_ _ | refine bDrewN ?_ _ | refine bDrew ?_ | refine bSet ?_ (by first | exact Nat.le_refl _ | omega | (simp; done) | (simp; omega)) _)
      have hfb : fn ≤ 1099511627776 := by omega
      have ha5 : RdY wx A1 n1 l1 := ha4.below bx
      have hT3 := hT2.below bx
      have BW3 := BW2.trans (bx.mono BW2.size)
      clear hwx oF ha4 hT2 bx BW2
      go_wp2_with fail
      refine (implCuesBetween_any _ _ _ _ M b0 b1 b2 b3 fr tt (rF.below (by repeat (first | exact Below.refl _ _ | assumption | refine bExt ?_ _ | refine bAlloc ?_ _ | refine bDrewN ?_ _ | refine bDrew ?_ | refine bSet ?_ (by first | exact Nat.le_refl _ | omega | (simp; done) | (simp; omega)) _))) hfb cF.1).mono ?_
      rintro e w1 ⟨G, gn, gc, x6, rfl, rfl, oG⟩
      go_wp2_with fail
      refine (specCuesBetween_any _ _ _ _ M b0 b1 b2 b3 fr tt (rF.below (by repeat (first | exact Below.refl _ _ | assumption | refine bExt ?_ _ | refine bAlloc ?_ _ | refine bDrewN ?_ _ | refine bDrew ?_ | refine bSet ?_ (by first | exact Nat.le_refl _ | omega | (simp; done) | (simp; omega)) _))) hfb).mono ?_
      rintro e w1 ⟨H, hh, hc, x7, rfl, rfl, oH⟩
      have hg : gn ≤ 1099511627776 := bd3 oG (Nat.le_trans (cbV_len _ _ _ _ _ _ _) (by omega))
      have hhb : hh ≤ 1000 := by rw [← oH.len]; exact Nat.le_trans (cbV_len _ _ _ _ _ _ _) (by omega)
      have hbt := fun k (hk : k < hh) => between_facts (l := M) (a := b0) (b := b1) (c := b2) (gap := b3) (f := fr) (t := tt) k (by rw [oH.len]; exact hk)
      go_wp2_with ((go_at_call 30; ((with_reducible refine (pSame_x _ _ _ _ _ _ _ _ (oG.rd.below (by repeat (first | exact Below.refl _ _ | assumption | refine bExt ?_ _ | refine bAlloc ?_ _ | refine bDrewN ?_ _ | refine bDrew ?_ | refine bSet ?_ (by first | exact Nat.le_refl _ | omega | (simp; done) | (simp; omega)) _))) (oH.rd.below (by repeat (first | exact Below.refl _ _ | assumption | refine bExt ?_ _ | refine bAlloc ?_ _ | refine bDrewN ?_ _ | refine bDrew ?_ | refine bSet ?_ (by first | exact Nat.le_refl _ | omega | (simp; done) | (simp; omega)) _))) hg).mono ?_); rintro e w' ⟨rfl, x8, rfl⟩)))
      generalize hw4 : ext (ext (ext (wx.alloc (.cells #[.int .i64 b0, .int .i64 b1, .int .i64 b2, .int .i64 b3] 53)) x6) x7) x8 = w4 at *
      have bW : Below wx.heap.size wx w4 := by rw [← hw4]; repeat (first | exact Below.refl _ _ | assumption | refine bExt ?_ _ | refine bAlloc ?_ _ | refine bDrewN ?_ _ | refine bDrew ?_ | refine bSet ?_ (by first | exact Nat.le_refl _ | omega | (simp; done) | (simp; omega)) _)
      have rH : Rd3 w4 H hh (cbV M b0 b1 b2 b3 fr tt) := oH.rd.below (by rw [← hw4]; repeat (first | exact Below.refl _ _ | assumption | refine bExt ?_ _ | refine bAlloc ?_ _ | refine bDrewN ?_ _ | refine bDrew ?_ | refine bSet ?_ (by first | exact Nat.le_refl _ | omega | (simp; done) | (simp; omega)) _))
      have ha6 := ha5.below bW
      have hT4 := hT3.below bW
      have BW4 := BW3.trans (bW.mono BW3.size)
      clear hw4 oG oH rF cF hfb hfn bW ha5 hT3 BW3 hg
      generalize cbV M b0 b1 b2 b3 fr tt = VH at *
      go_loopw [30, 190] (fun _ ix wr => ∃ k : Nat, k ≤ hh ∧ ix = .int .i64 k ∧ Below w4.heap.size w4 wr) (fun _ ix _ => hh - (intOf ix).toNat)
      case atStart => exact ⟨0, by omega, rfl, Below.refl _ _⟩
      case round =>
        exact Nonempty.elim (α := type_of% ?k5) (letI i : Nonempty (type_of% ?k5) := ⟨by
          obtain ⟨k, hk, rfl, hbl⟩ := hrel
          by_cases hlt : k < hh
          · obtain ⟨bC, oC, rfl, hbC, hC0, hC1, hC2⟩ := (rH.below hbl).at_ k hlt
            obtain ⟨hv1, hv2⟩ := hbt k hlt
            have hkI : (k : Int) < hh := by omega
            clear hbt rH
            generalize (VH[k]?.getD z3).1 = t at *
            generalize (VH[k]?.getD z3).2.1 = kk at *
            generalize (VH[k]?.getD z3).2.2 = s at *
            go_wp2
            go_roundw
            case rel => exact ⟨k + 1, by omega, by go_num, by repeat (first | exact Below.refl _ _ | assumption | refine bExt ?_ _ | refine bAlloc ?_ _ | refine bDrewN ?_ _ | refine bDrew ?_ | refine bSet ?_ (by first | exact Nat.le_refl _ | omega | (simp; done) | (simp; omega)) _)⟩
            case measure => simp [intOf]; omega
          · have ha7 := ha6.below hbl
            have hT5 := hT4.below hbl
            have BW5 := BW4.trans (hbl.mono BW4.size)
            clear hbt rH ha6 hT4 BW4 hbl
            generalize wr = w5 at *
            go_wp2_with fail
            refine (drawShownAt_any _ _ _ _ _ ha7 hm1).mono ?_
            rintro e wx ⟨D, dn, dc, Q, a0, a1, a2, a3, t, x9, rfl, hdn, hwx, oD⟩
            rw [← hwx] at oD
            have cD := oD.cap_
            have rD : RdS wx D dn Q := oD.rd
            have bx : Below w5.heap.size w5 wx := by rw [hwx]; repeat (first | exact Below.refl _ _ | assumption | refine bExt ?_ _ | refine bAlloc ?_ _ | refine bDrewN ?_ _ | refine bDrew ?_ | refine bSet ?_ (by first | exact Nat.le_refl _ | omega | (simp; done) | (simp; omega)) _)
            have hdb : dn ≤ 1099511627776 := by omega
            have ha8 : RdY wx A1 n1 l1 := ha7.below bx
            have hT6 := hT5.below bx
            have BW6 := BW5.trans (bx.mono BW5.size)
            clear hwx oD ha7 hT5 bx BW5
            go_wp2_with fail
            have hdd := heap_alloc_new wx (.cells #[.int .i64 a0, .int .i64 a1, .int .i64 a2, .int .i64 a3] 53)
            refine (implShownAt_any _ _ _ _ Q a0 a1 a2 a3 t (rD.below (by repeat (first | exact Below.refl _ _ | assumption | refine bExt ?_ _ | refine bAlloc ?_ _ | refine bDrewN ?_ _ | refine bDrew ?_ | refine bSet ?_ (by first | exact Nat.le_refl _ | omega | (simp; done) | (simp; omega)) _))) hdb cD.1).mono ?_
            rintro e w1 ⟨x10, rfl, rfl⟩
            go_wp2_with fail
            refine (specShownAt_any _ _ _ _ Q a0 a1 a2 a3 t (rD.below (by repeat (first | exact Below.refl _ _ | assumption | refine bExt ?_ _ | refine bAlloc ?_ _ | refine bDrewN ?_ _ | refine bDrew ?_ | refine bSet ?_ (by first | exact Nat.le_refl _ | omega | (simp; done) | (simp; omega)) _))) hdb).mono ?_
            rintro e w1 ⟨x11, rfl, rfl⟩
            go_upto_region 35 with fail
            generalize hsh : shP Q a0 a1 a2 a3 t = sh at *
            have HS := Lib.hid (@shown_facts Q a0 a1 a2 a3 t)
            rw [hsh] at HS
            clear hsh
            obtain ⟨⟨st, sk, ss⟩, three⟩ := sh
            have hsi := heap_alloc_new (ext (wx.alloc (.cells #[.int .i64 a0, .int .i64 a1, .int .i64 a2, .int .i64 a3] 53)) x10) (.cells #[.int .i64 st, .int .i64 sk, .int .i64 ss] 62)
            have hss := heap_alloc_new (ext ((ext (wx.alloc (.cells #[.int .i64 a0, .int .i64 a1, .int .i64 a2, .int .i64 a3] 53)) x10).alloc (.cells #[.int .i64 st, .int .i64 sk, .int .i64 ss] 62)) x11) (.cells #[.int .i64 st, .int .i64 sk, .int .i64 ss] 62)
            generalize hw7 : (ext ((ext (wx.alloc (.cells #[.int .i64 a0, .int .i64 a1, .int .i64 a2, .int .i64 a3] 53)) x10).alloc (.cells #[.int .i64 st, .int .i64 sk, .int .i64 ss] 62)) x11).alloc (.cells #[.int .i64 st, .int .i64 sk, .int .i64 ss] 62) = w7 at *
            have bW : Below wx.heap.size wx w7 := by rw [← hw7]; repeat (first | exact Below.refl _ _ | assumption | refine bExt ?_ _ | refine bAlloc ?_ _ | refine bDrewN ?_ _ | refine bDrew ?_ | refine bSet ?_ (by first | exact Nat.le_refl _ | omega | (simp; done) | (simp; omega)) _)
            have hdw := heap_old hdd (show Below (wx.alloc (.cells #[.int .i64 a0, .int .i64 a1, .int .i64 a2, .int .i64 a3] 53)).heap.size (wx.alloc (.cells #[.int .i64 a0, .int .i64 a1, .int .i64 a2, .int .i64 a3] 53)) w7 by rw [← hw7]; repeat (first | exact Below.refl _ _ | assumption | refine bExt ?_ _ | refine bAlloc ?_ _ | refine bDrewN ?_ _ | refine bDrew ?_ | refine bSet ?_ (by first | exact Nat.le_refl _ | omega | (simp; done) | (simp; omega)) _))
            have hsw := heap_old hsi (show Below ((ext (wx.alloc (.cells #[.int .i64 a0, .int .i64 a1, .int .i64 a2, .int .i64 a3] 53)) x10).alloc (.cells #[.int .i64 st, .int .i64 sk, .int .i64 ss] 62)).heap.size ((ext (wx.alloc (.cells #[.int .i64 a0, .int .i64 a1, .int .i64 a2, .int .i64 a3] 53)) x10).alloc (.cells #[.int .i64 st, .int .i64 sk, .int .i64 ss] 62)) w7 by rw [← hw7]; repeat (first | exact Below.refl _ _ | assumption | refine bExt ?_ _ | refine bAlloc ?_ _ | refine bDrewN ?_ _ | refine bDrew ?_ | refine bSet ?_ (by first | exact Nat.le_refl _ | omega | (simp; done) | (simp; omega)) _))
            have rD7 := rD.below bW
            have ha9 := ha8.below bW
            have hT7 := hT6.below bW
            have BW7 := BW6.trans (bW.mono BW6.size)
            clear hw7 hdd hsi bW rD ha8 hT6 BW6
            generalize wx.heap.size = p9 at *
            generalize (ext (wx.alloc (.cells #[.int .i64 a0, .int .i64 a1, .int .i64 a2, .int .i64 a3] 53)) x10).heap.size = pI at *
            generalize (ext ((ext (wx.alloc (.cells #[.int .i64 a0, .int .i64 a1, .int .i64 a2, .int .i64 a3] 53)) x10).alloc (.cells #[.int .i64 st, .int .i64 sk, .int .i64 ss] 62)) x11).heap.size = pS at *
            go_cut [241] (fun v wz => v = .bool false ∧ wz = w7)
            case first =>
              exact Nonempty.elim (α := type_of% ?k2) (letI i : Nonempty (type_of% ?k2) := ⟨by
                obtain ⟨⟨m0, m1, m2⟩, m3, m4, m5⟩ := blk3 hsw
                obtain ⟨⟨o0, o1, o2⟩, o3, o4, o5⟩ := blk3 hss
                have hpI : pI < w7.heap.size := (Array.getElem?_eq_some_iff.1 hsw).1
                have hpS : pS < w7.heap.size := (Array.getElem?_eq_some_iff.1 hss).1
                clear hdw hsw hss rD7 ha9 hT7 BW7 cD
                cases three
                · clear HS
                  go_wp2
                  go_meet
                  exact ⟨rfl, rfl⟩
                · have hst : st ≤ t := (HS.out rfl).2.2.2
                  have hst2 : decide (t < st) = false := decide_eq_false (by omega)
                  clear HS
                  go_wp2
                  go_meet
                  exact ⟨by first | rfl | rw [hst2] | simp [hst2], rfl⟩
                ⟩; by exact inferInstanceAs (Nonempty _)) (fun h => h)
            case rest =>
              exact Nonempty.elim (α := type_of% ?k4) (letI i : Nonempty (type_of% ?k4) := ⟨by
                obtain ⟨rfl, hcw⟩ := hcut
                have hcw := hcw.symm
                subst hcw
                clear hsw
                go_upto_if 242 with fail
                go_cut [] (fun wz => Below w7.heap.size w7 wz)
                case first =>
                  exact Nonempty.elim (α := type_of% ?k3) (letI i : Nonempty (type_of% ?k3) := ⟨by
                    cases three
                    · go_wp2
                      go_meet
                      exact Below.refl _ _
                    · obtain ⟨hb, hl0, hlast, hst⟩ := HS.out rfl
                      clear HS hst ha9 hT7 BW7
                      have e1 := fun W (h : Below w7.heap.size w7 W) => implCuesBetween_any W D dn dc Q a0 a1 a2 a3 0 t (rD7.below h) hdb cD.1
                      have e2 := fun W (h : Below w7.heap.size w7 W) => specCuesBetween_any W D dn dc Q a0 a1 a2 a3 0 t (rD7.below h) hdb
                      simp only [hb] at e1 e2
                      have hql : Q.length ≤ 41 := by rw [rD7.len]; exact hdn
                      have hvl := cbV_len Q a0 a1 a2 a3 0 t
                      have ⟨⟨q0, q1, q2, q3⟩, q4, q5, q6, q7⟩ := blk4 hdw
                      have hp9 : p9 < w7.heap.size := (Array.getElem?_eq_some_iff.1 hdw).1
                      have hpS : pS < w7.heap.size := (Array.getElem?_eq_some_iff.1 hss).1
                      generalize cbV Q a0 a1 a2 a3 0 t = VV at *
                      go_upto_region 40 with (first | (go_at_call 36; ((with_reducible refine (e1 _ (by repeat (first | exact Below.refl _ _ | assumption | refine bExt ?_ _ | refine bAlloc ?_ _ | refine bDrewN ?_ _ | refine bDrew ?_ | refine bSet ?_ (by first | exact Nat.le_refl _ | omega | (simp; done) | (simp; omega)) _))).mono ?_); rintro e w' ⟨U, un, uc, y1, rfl, rfl, oU⟩)) | (go_at_call 37; ((with_reducible refine (e2 _ (by repeat (first | exact Below.refl _ _ | assumption | refine bExt ?_ _ | refine bAlloc ?_ _ | refine bDrewN ?_ _ | refine bDrew ?_ | refine bSet ?_ (by first | exact Nat.le_refl _ | omega | (simp; done) | (simp; omega)) _))).mono ?_); rintro e w' ⟨V, vn, vc, y2, rfl, rfl, oV⟩)))
                      have hun : un ≤ 1099511627776 := bd3 oU (Nat.le_trans hvl (by omega))
                      have hvn : vn ≤ 1000 := by rw [← oV.len]; exact Nat.le_trans hvl (by omega)
                      have hv0 : 0 < vn := by rw [← oV.len]; exact hl0
                      rw [oV.len] at hlast
                      have bq : Below w7.heap.size w7 (ext (ext w7 y1) y2) := by repeat (first | exact Below.refl _ _ | assumption | refine bExt ?_ _ | refine bAlloc ?_ _ | refine bDrewN ?_ _ | refine bDrew ?_ | refine bSet ?_ (by first | exact Nat.le_refl _ | omega | (simp; done) | (simp; omega)) _)
                      have rU : Rd3 (ext (ext w7 y1) y2) U un VV := oU.rd.below (by repeat (first | exact Below.refl _ _ | assumption | refine bExt ?_ _ | refine bAlloc ?_ _ | refine bDrewN ?_ _ | refine bDrew ?_ | refine bSet ?_ (by first | exact Nat.le_refl _ | omega | (simp; done) | (simp; omega)) _))
                      have rV : Rd3 (ext (ext w7 y1) y2) V vn VV := oV.rd.below (by repeat (first | exact Below.refl _ _ | assumption | refine bExt ?_ _ | refine bAlloc ?_ _ | refine bDrewN ?_ _ | refine bDrew ?_ | refine bSet ?_ (by first | exact Nat.le_refl _ | omega | (simp; done) | (simp; omega)) _))
                      have hss8 := heap_old hss bq
                      have hpS8 : pS < (ext (ext w7 y1) y2).heap.size := (Array.getElem?_eq_some_iff.1 hss8).1
                      clear oU oV e1 e2 hss hdw q0 q1 q2 q3 q4 q5 q6 q7 hp9 hpS hb hl0 hvl hql rD7 cD hdb hdn
                      generalize ext (ext w7 y1) y2 = w8 at *
                      obtain ⟨⟨o0, o1, o2⟩, o3, o4, o5⟩ := blk3 hss8
                      obtain ⟨bV, oVo, rfl, hbV, hV0, hV1, hV2⟩ := rV.at_ (vn - 1) (by omega)
                      rw [hlast] at hV0 hV1 hV2
                      have hwI : IntKind.i64.wrap ((vn : Int) - 1) = ((vn - 1 : Nat) : Int) := by rw [IntWalk.i64_in _ (by omega)]; omega
                      have hj1 : vn - 1 < vn := by omega
                      have hjI : ((vn - 1 : Nat) : Int) < vn := by omega
                      generalize vn - 1 = j at *
                      have hz1 : ¬ (vn : Int) = 0 := by omega
                      have hz2 : ¬ vn = 0 := by omega
                      have hz3 : decide ((vn : Int) = 0) = false := decide_eq_false hz1
                      have hz4 : ((vn : Int) == 0) = false := by simp; omega
                      clear hlast hss8
                      go_big_quiet ((go_at_call 30; exact pSame_left rU rV hun))
                      go_wp2
                      go_meet
                      repeat (first | exact Below.refl _ _ | assumption | refine bExt ?_ _ | refine bAlloc ?_ _ | refine bDrewN ?_ _ | refine bDrew ?_ | refine bSet ?_ (by first | exact Nat.le_refl _ | omega | (simp; done) | (simp; omega)) _)
                    ⟩; by exact inferInstanceAs (Nonempty _)) (fun h => h)
                case rest =>
                  have bz := hcut
                  clear hcut
                  rename World => w9
                  have BW8 := BW7.trans (bz.mono BW7.size)
                  have ha10 := ha9.below bz
                  have hT8 := hT7.below bz
                  clear HS hdw hss rD7 cD hdb hdn BW7 ha9 hT7 bz
                  go_wp2_with fail
                  refine (drawCueText_any _ _ _ _ _ ha10 hm1).mono ?_
                  rintro e wy ⟨ct, ck, cs, x14, rfl, rfl⟩
                  go_wp2_with fail
                  refine (implCueText_any ct ck cs _ (hT8.below (by repeat (first | exact Below.refl _ _ | assumption | refine bExt ?_ _ | refine bAlloc ?_ _ | refine bDrewN ?_ _ | refine bDrew ?_ | refine bSet ?_ (by first | exact Nat.le_refl _ | omega | (simp; done) | (simp; omega)) _)))).mono ?_
                  rintro e w1 ⟨x15, rfl, rfl⟩
                  go_wp2_with fail
                  refine (specCueText_any ct ck cs _).mono ?_
                  rintro e w1 ⟨x16, rfl, rfl⟩
                  go_wp2_with fail
                  go_ret
                  exact ⟨by first | rfl | exact ret_bool (by simp), BW8.trans (Below.mono (by repeat (first | exact Below.refl _ _ | assumption | refine bExt ?_ _ | refine bAlloc ?_ _ | refine bDrewN ?_ _ | refine bDrew ?_ | refine bSet ?_ (by first | exact Nat.le_refl _ | omega | (simp; done) | (simp; omega)) _) : Below w9.heap.size w9 _) BW8.size)⟩
                ⟩; by exact inferInstanceAs (Nonempty _)) (fun h => h)
          ⟩; by exact inferInstanceAs (Nonempty _)) (fun h => h)
      ⟩; by exact inferInstanceAs (Nonempty _)) (fun h => h)
set_option maxRecDepth 100000 in
theorem fnCues_contract (H : Type) (enc : TypeId × Value → H) (W : World) (base : Nat) (args : Array Value) (ds gs : List (DataW H)) (before : List MemPlace)
    (hval : ∀ (j : Nat) t v, Tryd.f4.params[j]? = some t → args[j]? = some v → Value.okWide Tryd.prog W .any base t v)
    (hW : DataW.Whole enc Tryd.prog Tryd.f4.params.toList Rows.fnCuesSpec.vars false W args.toList ds gs before) (hL : Tab W) :
    Calls Tryd.prog 4 args W fun e W' => ∃ v, e = .returned v ∧ Rows.fnCuesSpec.post enc Tryd.prog Tryd.f4 false true false false W args v W' := by
  have hW' := hW
  obtain ⟨p, q, hA0, hV, rfl, hfz, hnd⟩ := hW
  have hA : DataW.TrodAll enc Tryd.prog W 0 (fun _ => true) true Tryd.f4.params.toList args.toList ds p := hA0
  have hAk := hA
  rw [Tryd.params4] at hA hval
  obtain ⟨v0, vs0, d0, ds0, p0, q0, hargs, rfl, rfl, h0, r0⟩ := trodAll_cons hA
  obtain ⟨v1, vs1, d1, ds1, p1, q1, rfl, rfl, rfl, h1, r1⟩ := trodAll_cons r0
  obtain ⟨rfl, rfl, rfl⟩ := trodAll_nil r1
  obtain rfl : args = #[v0, v1] := by cases args; simp_all
  obtain ⟨rfl, rfl⟩ := trodVars_none hV
  obtain ⟨A0, n0, c0, l0, rfl, g0, nc0, cm0⟩ := open_RdY (hval 0 22 v0 rfl rfl) h0
  obtain ⟨A1, n1, c1, l1, rfl, g1, nc1, cm1⟩ := open_RdY (hval 1 22 v1 rfl rfl) h1
  refine (law_Cues _ _ _ _ _ g0 (by simp only [maxLen] at cm0; omega) _ _ _ _ g1 (by simp only [maxLen] at cm1; omega) hL).mono fun e W' hh => ?_
  obtain ⟨he, bel⟩ := hh
  subst he
  exact ⟨_, rfl, _, _, _, [], _, [], hW', trodAll_mk1 (shut_bool Tryd.underlying4 _), trodAll_below laidOutAll bel _ _ _ _ (by rw [tsOk, Tryd.params4]; kernel_rfl) hAk, rfl, bel.frame _, fun h => by cases h⟩
theorem fnCues_met (os : Os) : laidMet Tryd.prog Rows.fnCuesRow.laid ((laidWorld os).forCall (fun _ _ => 0) ⟨#[], #[.slice none 0 0, .slice none 0 0], []⟩).memory :=
  laidMet_of_run' 8 (by kernel_rfl) (by kernel_rfl)
theorem fnCues_reads (os : Os) {H : Type} (enc : TypeId × Value → H) : ∃ places, DataW.whole enc Tryd.prog ((laidWorld os).forCall (fun _ _ => 0) ⟨#[], #[.slice none 0 0, .slice none 0 0], []⟩).memory Tryd.f4.params.toList Rows.fnCuesSpec.vars false (#[.slice none 0 0, .slice none 0 0] : Array Value).toList 8 = some ([.nil, .nil], [], places) :=
  ⟨[], by kernel_rfl⟩
set_option maxRecDepth 100000 in
theorem fnCues_lifted (os : Os) (started : os.Started) (H : Type) (enc : TypeId × Value → H) (F : Stop.Interp) :
    ReturnsInHanded {} Tryd.checked os 4 .any ((OpenSpec.ofChange Rows.fnCuesSpec).preRow enc Tryd.prog Tryd.f4 Rows.fnCuesRow.domain false Rows.fnCuesRow.laid) (((OpenSpec.ofChange Rows.fnCuesSpec).at F).post enc Tryd.prog Tryd.f4 false true false false) := by
  obtain ⟨places, hx⟩ := fnCues_reads os enc
  refine returnsInHanded_of_row (C := Tryd.checked) (s := OpenSpec.ofChange Rows.fnCuesSpec) own started (by kernel_rfl) Tryd.func4
    (witness_row_at (enc := enc) (C := Tryd.checked) false (laidWorld os) #[.slice none 0 0, .slice none 0 0] rfl (by kernel_rfl) (by kernel_rfl) (by kernel_rfl)
      (OpenSpec.preRow_of_cond 8 hx (by kernel_rfl) (fun k hk => by cases hk) (by kernel_rfl) (fnCues_met os))) ?_
  intro W base args ds gs before hval hW _ _ _ hL _ _
  exact fnCues_contract H enc W base args ds gs before hval hW (tab_of_laid hL)
theorem fnCues_said : Rows.FnCuesSaid :=
  OpenClaim.holds_of_cond 4 Tryd.f4 rfl rfl rfl rfl rfl rfl rfl ⟨rfl, rfl, rfl, rfl, rfl⟩ rfl rfl rfl rfl rfl (by kernel_rfl) Tryd.func4 (by kernel_rfl)
    (of_decide_eq_true (by kernel_rfl)) (by unfold Func.isWrapper; first | (rw [if_pos (by decide +kernel)]; kernel_rfl) | (rw [if_neg (by decide +kernel)]; exact ⟨rfl, rfl⟩))
    (fun os started H enc _ F => by rw [OpenClaim.pre_eq_preRow]; exact fnCues_lifted os started H enc F)
theorem fnCues_plain (f : FuncId) (fn : Func) (hf : Tryd.pinned.checked.prog.funcNamed "loop.example/g00912/laws.FnCues" = some f) (hfn : Tryd.pinned.checked.prog.funcs[f]? = some fn) :
    false = Tryd.pinned.checked.prog.looks [] ∧ ∀ (j : Nat) t, fn.params[j]? = some t → Tryd.pinned.checked.prog.wantsStandIn t = false := by
  obtain rfl : f = 4 := Option.some.inj ((show Tryd.prog.funcNamed "loop.example/g00912/laws.FnCues" = some 4 by kernel_rfl).symm.trans hf) |>.symm
  obtain rfl : fn = Tryd.f4 := (Option.some.inj (Tryd.func4.symm.trans hfn)).symm
  refine ⟨by kernel_rfl, fun j t ht => ?_⟩
  have hall : ∀ t ∈ Tryd.f4.params.toList, Tryd.prog.wantsStandIn t = false := by rw [Tryd.params4]; intro t ht; simp at ht; first | (subst ht; kernel_rfl) | (rcases ht with rfl | rfl <;> kernel_rfl) | (rcases ht with rfl | rfl | rfl <;> kernel_rfl)
  exact hall t (Array.mem_toList_iff.2 (Array.mem_of_getElem? ht))
theorem fnCues_holds : Rows.FnCuesCardSaid :=
  Claim7.holds_tied_plain_at .later [] _ _ _ _ fnCues_said (fun _ h => by cases h) (by kernel_rfl) (fun _ h => by cases h) fnCues_row_tie rfl ⟨rfl, rfl⟩ (by kernel_rfl) rfl fnCues_plain (by kernel_rfl)
end Go.Proofs.YtpjaiihkgeabiaaDoor
