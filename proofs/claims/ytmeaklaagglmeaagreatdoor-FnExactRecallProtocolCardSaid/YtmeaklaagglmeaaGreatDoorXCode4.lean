/- Contracts on valid codes of points in the program. Conditions: lengths below 2^40, strings below 2^63 bytes. -/
import Derived.Test.YtmeaklaagglmeaaGreatDoorXCode3
set_option linter.unusedVariables false
set_option linter.unusedSimpArgs false
set_option maxRecDepth 100000
namespace Go.Proofs.YtmeaklaagglmeaaGreatDoor
open Go.RowKit
theorem isFamily_any (a : Int) (w : World) :
  Calls Tryz.prog 108 #[.int .i64 a] w fun e w' => e = .returned (.bool (inB a 0 4)) ∧ w = w' := by
 go_enter Tryz.func108, Tryz.ntmps108
 go_wp2_with (go_at_call 91; ((with_reducible refine (within_any _ _ _ _).mono ?_); rintro e w' ⟨rfl, rfl⟩))
 go_ret
 exact ⟨rfl, rfl⟩
theorem codeB_perm (els : List El) (lims : List Int) (n m : Nat) (q0 q1 q2 q3 : Int) (hn : els.length = n) (hm : lims.length = m) : codeB els lims q0 q1 q2 q3 = ((inB (n : Int) 1 24 && (decide (m = 5) && allB lims 0 9)) && ((inB q0 1 3 && (inB q1 0 20 && (inB q2 50 100 && inB q3 0 500))) && elsB els)) := by
 unfold codeB
 rw [hn, hm]
 cases elsB els <;> cases inB (n : Int) 1 24 <;> cases decide (m = 5) <;> cases allB lims 0 9 <;> simp
set_option maxHeartbeats 4000000 in
theorem isCode_any (w : World) (A B : Option Addr) (n m c d : Nat) (els : List El) (lims : List Int) (q0 q1 q2 q3 : Int) (ha : RdEl w A n els) (hb : RdI w B m lims) (hn : n ≤ 1099511627776) (hm : m ≤ 1099511627776) (hs : ∀ x ∈ els, x.1.size ≤ 9223372036854775807) :
  Calls Tryz.prog 54 #[.agg #[.slice A n c, .slice B m d, .int .i64 q0, .int .i64 q1, .int .i64 q2, .int .i64 q3]] w fun e w' => e = .returned (.bool (codeB els lims q0 q1 q2 q3)) ∧ ∃ y, w' = ext w y := by
 have Hl := Lib.hid ha.len
 have HC := Lib.hid (codeB_perm els lims n m q0 q1 q2 q3 ha.len hb.len)
 have c0 := fun W => within_any (n : Int) 1 24 W
 have c2 := fun W (h : Below w.heap.size w W) => allWithin_any W B m d lims 0 9 (hb.below h) hm
 have c3 := fun W => within_any q0 1 3 W
 have c4 := fun W => within_any q1 0 20 W
 have c5 := fun W => within_any q2 50 100 W
 have c6 := fun W => within_any q3 0 500 W
 generalize inB (n : Int) 1 24 = b0 at *
 generalize allB lims 0 9 = b2 at *
 generalize inB q0 1 3 = b3 at *
 generalize inB q1 0 20 = b4 at *
 generalize inB q2 50 100 = b5 at *
 generalize inB q3 0 500 = b6 at *
 go_enter Tryz.func54, Tryz.ntmps54
 cases b0
 ·
  skip
  go_wp2_with (first | (go_at_call 91; ((with_reducible refine (c0 _).mono ?_); rintro e w' ⟨rfl, rfl⟩)) | (go_at_call 106; ((with_reducible refine (c2 _ bl).mono ?_); rintro e w' ⟨rfl, rfl⟩)) | (go_at_call 91; ((with_reducible refine (c3 _).mono ?_); rintro e w' ⟨rfl, rfl⟩)) | (go_at_call 91; ((with_reducible refine (c4 _).mono ?_); rintro e w' ⟨rfl, rfl⟩)) | (go_at_call 91; ((with_reducible refine (c5 _).mono ?_); rintro e w' ⟨rfl, rfl⟩)) | (go_at_call 91; ((with_reducible refine (c6 _).mono ?_); rintro e w' ⟨rfl, rfl⟩)))
  go_ret
  exact ⟨ret_bool (by rw [HC.out]; simp [*]), ext_ex bl⟩
 by_cases h5 : ¬ m = 5
 ·
  have h5I : ¬ (m : Int) = 5 := by omega
  have h5B : ((m : Int) == 5) = false := by simp; omega
  go_wp2_with (first | (go_at_call 91; ((with_reducible refine (c0 _).mono ?_); rintro e w' ⟨rfl, rfl⟩)) | (go_at_call 106; ((with_reducible refine (c2 _ bl).mono ?_); rintro e w' ⟨rfl, rfl⟩)) | (go_at_call 91; ((with_reducible refine (c3 _).mono ?_); rintro e w' ⟨rfl, rfl⟩)) | (go_at_call 91; ((with_reducible refine (c4 _).mono ?_); rintro e w' ⟨rfl, rfl⟩)) | (go_at_call 91; ((with_reducible refine (c5 _).mono ?_); rintro e w' ⟨rfl, rfl⟩)) | (go_at_call 91; ((with_reducible refine (c6 _).mono ?_); rintro e w' ⟨rfl, rfl⟩)))
  go_ret
  exact ⟨ret_bool (by rw [HC.out]; simp [*]), ext_ex bl⟩
 obtain rfl : m = 5 := by omega
 clear h5
 cases b2
 ·
  skip
  go_wp2_with (first | (go_at_call 91; ((with_reducible refine (c0 _).mono ?_); rintro e w' ⟨rfl, rfl⟩)) | (go_at_call 106; ((with_reducible refine (c2 _ bl).mono ?_); rintro e w' ⟨rfl, rfl⟩)) | (go_at_call 91; ((with_reducible refine (c3 _).mono ?_); rintro e w' ⟨rfl, rfl⟩)) | (go_at_call 91; ((with_reducible refine (c4 _).mono ?_); rintro e w' ⟨rfl, rfl⟩)) | (go_at_call 91; ((with_reducible refine (c5 _).mono ?_); rintro e w' ⟨rfl, rfl⟩)) | (go_at_call 91; ((with_reducible refine (c6 _).mono ?_); rintro e w' ⟨rfl, rfl⟩)))
  go_ret
  exact ⟨ret_bool (by rw [HC.out]; simp [*]), ext_ex bl⟩
 cases b3
 ·
  skip
  go_wp2_with (first | (go_at_call 91; ((with_reducible refine (c0 _).mono ?_); rintro e w' ⟨rfl, rfl⟩)) | (go_at_call 106; ((with_reducible refine (c2 _ bl).mono ?_); rintro e w' ⟨rfl, rfl⟩)) | (go_at_call 91; ((with_reducible refine (c3 _).mono ?_); rintro e w' ⟨rfl, rfl⟩)) | (go_at_call 91; ((with_reducible refine (c4 _).mono ?_); rintro e w' ⟨rfl, rfl⟩)) | (go_at_call 91; ((with_reducible refine (c5 _).mono ?_); rintro e w' ⟨rfl, rfl⟩)) | (go_at_call 91; ((with_reducible refine (c6 _).mono ?_); rintro e w' ⟨rfl, rfl⟩)))
  go_ret
  exact ⟨ret_bool (by rw [HC.out]; simp [*]), ext_ex bl⟩
 cases b4
 ·
  skip
  go_wp2_with (first | (go_at_call 91; ((with_reducible refine (c0 _).mono ?_); rintro e w' ⟨rfl, rfl⟩)) | (go_at_call 106; ((with_reducible refine (c2 _ bl).mono ?_); rintro e w' ⟨rfl, rfl⟩)) | (go_at_call 91; ((with_reducible refine (c3 _).mono ?_); rintro e w' ⟨rfl, rfl⟩)) | (go_at_call 91; ((with_reducible refine (c4 _).mono ?_); rintro e w' ⟨rfl, rfl⟩)) | (go_at_call 91; ((with_reducible refine (c5 _).mono ?_); rintro e w' ⟨rfl, rfl⟩)) | (go_at_call 91; ((with_reducible refine (c6 _).mono ?_); rintro e w' ⟨rfl, rfl⟩)))
  go_ret
  exact ⟨ret_bool (by rw [HC.out]; simp [*]), ext_ex bl⟩
 cases b5
 ·
  skip
  go_wp2_with (first | (go_at_call 91; ((with_reducible refine (c0 _).mono ?_); rintro e w' ⟨rfl, rfl⟩)) | (go_at_call 106; ((with_reducible refine (c2 _ bl).mono ?_); rintro e w' ⟨rfl, rfl⟩)) | (go_at_call 91; ((with_reducible refine (c3 _).mono ?_); rintro e w' ⟨rfl, rfl⟩)) | (go_at_call 91; ((with_reducible refine (c4 _).mono ?_); rintro e w' ⟨rfl, rfl⟩)) | (go_at_call 91; ((with_reducible refine (c5 _).mono ?_); rintro e w' ⟨rfl, rfl⟩)) | (go_at_call 91; ((with_reducible refine (c6 _).mono ?_); rintro e w' ⟨rfl, rfl⟩)))
  go_ret
  exact ⟨ret_bool (by rw [HC.out]; simp [*]), ext_ex bl⟩
 cases b6
 ·
  skip
  go_wp2_with (first | (go_at_call 91; ((with_reducible refine (c0 _).mono ?_); rintro e w' ⟨rfl, rfl⟩)) | (go_at_call 106; ((with_reducible refine (c2 _ bl).mono ?_); rintro e w' ⟨rfl, rfl⟩)) | (go_at_call 91; ((with_reducible refine (c3 _).mono ?_); rintro e w' ⟨rfl, rfl⟩)) | (go_at_call 91; ((with_reducible refine (c4 _).mono ?_); rintro e w' ⟨rfl, rfl⟩)) | (go_at_call 91; ((with_reducible refine (c5 _).mono ?_); rintro e w' ⟨rfl, rfl⟩)) | (go_at_call 91; ((with_reducible refine (c6 _).mono ?_); rintro e w' ⟨rfl, rfl⟩)))
  go_ret
  exact ⟨ret_bool (by rw [HC.out]; simp [*]), ext_ex bl⟩
 have HC2 : Hid (codeB els lims q0 q1 q2 q3 = elsB els) := by have := HC.out; unfold Hid; rw [this]; simp
 go_wp2_with (first | (go_at_call 91; ((with_reducible refine (c0 _).mono ?_); rintro e w' ⟨rfl, rfl⟩)) | (go_at_call 106; ((with_reducible refine (c2 _ bl).mono ?_); rintro e w' ⟨rfl, rfl⟩)) | (go_at_call 91; ((with_reducible refine (c3 _).mono ?_); rintro e w' ⟨rfl, rfl⟩)) | (go_at_call 91; ((with_reducible refine (c4 _).mono ?_); rintro e w' ⟨rfl, rfl⟩)) | (go_at_call 91; ((with_reducible refine (c5 _).mono ?_); rintro e w' ⟨rfl, rfl⟩)) | (go_at_call 91; ((with_reducible refine (c6 _).mono ?_); rintro e w' ⟨rfl, rfl⟩)))
 clear c0 c2 c3 c4 c5 c6 HC
 go_loopw [3, 4, 47] (fun _ _ i wr => ∃ (k : Nat) (y : World), k ≤ n ∧ i = .int .i64 k ∧ wr = ext (w.alloc (.cells #[.slice A n c, .slice B 5 d, .int .i64 q0, .int .i64 q1, .int .i64 q2, .int .i64 q3] 39)) y ∧ ∀ j, j < k → Hid (okElAt els j = true)) (fun _ _ i _ => n - (intOf i).toNat)
 case atStart => exact ⟨0, _, by omega, rfl, ext_self _, fun j hj => by omega⟩
 case round =>
  obtain ⟨k, y, hk, rfl, rfl, hno⟩ := hrel
  by_cases hlt : k < n
  ·
   obtain ⟨b, off, rfl, hb0, hc0, hc1, hc2, hc3⟩ := ha.at_ k hlt
   obtain ⟨p, hp⟩ : ∃ p, els[k]?.getD zEl = p := ⟨_, rfl⟩
   rw [hp] at hc0 hc1 hc2 hc3
   have hps : p.1.size ≤ 9223372036854775807 := by rw [← hp]; exact hs _ (getD_mem zEl els k (by rw [Hl.out]; exact hlt))
   have HP : Hid (okElAt els k = (elB p && (decide (k = 0) || Op.bytesLess (els[k - 1]?.getD zEl).1.toList p.1.toList))) := by unfold Hid okElAt; rw [hp]
   have HN := Lib.hid (@elsB_no els k (by rw [Hl.out]; exact hlt))
   clear hp
   obtain ⟨ps, pa, pb, pc⟩ := p
   simp only at hc0 hc1 hc2 hc3
   have HE : Hid (elB (ps, pa, pb, pc) = (nameB ps && (inB pa 0 4 && (inB pb 0 4 && inB pc 1 2000)))) := rfl
   have d0 := fun W => isElementName_any ps W hps
   have d1 := fun W => isFamily_any pa W
   have d2 := fun W => within_any pb 0 4 W
   have d3 := fun W => within_any pc 1 2000 W
   generalize nameB ps = e0 at *
   generalize inB pa 0 4 = e1 at *
   generalize inB pb 0 4 = e2 at *
   generalize inB pc 1 2000 = e3 at *
   cases e0
   ·
    have HF := Lib.hid (HN.out (by rw [HP.out, HE.out]; simp))
    go_wp2_with (first | (go_at_call 107; ((with_reducible refine (d0 _).mono ?_); rintro e w' ⟨rfl, rfl⟩)) | (go_at_call 108; ((with_reducible refine (d1 _).mono ?_); rintro e w' ⟨rfl, rfl⟩)) | (go_at_call 91; ((with_reducible refine (d2 _).mono ?_); rintro e w' ⟨rfl, rfl⟩)) | (go_at_call 91; ((with_reducible refine (d3 _).mono ?_); rintro e w' ⟨rfl, rfl⟩)))
    go_ret
    exact ⟨ret_bool (by rw [HC2.out, HF.out]), ext_ex bl⟩
   cases e1
   ·
    have HF := Lib.hid (HN.out (by rw [HP.out, HE.out]; simp))
    go_wp2_with (first | (go_at_call 107; ((with_reducible refine (d0 _).mono ?_); rintro e w' ⟨rfl, rfl⟩)) | (go_at_call 108; ((with_reducible refine (d1 _).mono ?_); rintro e w' ⟨rfl, rfl⟩)) | (go_at_call 91; ((with_reducible refine (d2 _).mono ?_); rintro e w' ⟨rfl, rfl⟩)) | (go_at_call 91; ((with_reducible refine (d3 _).mono ?_); rintro e w' ⟨rfl, rfl⟩)))
    go_ret
    exact ⟨ret_bool (by rw [HC2.out, HF.out]), ext_ex bl⟩
   cases e2
   ·
    have HF := Lib.hid (HN.out (by rw [HP.out, HE.out]; simp))
    go_wp2_with (first | (go_at_call 107; ((with_reducible refine (d0 _).mono ?_); rintro e w' ⟨rfl, rfl⟩)) | (go_at_call 108; ((with_reducible refine (d1 _).mono ?_); rintro e w' ⟨rfl, rfl⟩)) | (go_at_call 91; ((with_reducible refine (d2 _).mono ?_); rintro e w' ⟨rfl, rfl⟩)) | (go_at_call 91; ((with_reducible refine (d3 _).mono ?_); rintro e w' ⟨rfl, rfl⟩)))
    go_ret
    exact ⟨ret_bool (by rw [HC2.out, HF.out]), ext_ex bl⟩
   cases e3
   ·
    have HF := Lib.hid (HN.out (by rw [HP.out, HE.out]; simp))
    go_wp2_with (first | (go_at_call 107; ((with_reducible refine (d0 _).mono ?_); rintro e w' ⟨rfl, rfl⟩)) | (go_at_call 108; ((with_reducible refine (d1 _).mono ?_); rintro e w' ⟨rfl, rfl⟩)) | (go_at_call 91; ((with_reducible refine (d2 _).mono ?_); rintro e w' ⟨rfl, rfl⟩)) | (go_at_call 91; ((with_reducible refine (d3 _).mono ?_); rintro e w' ⟨rfl, rfl⟩)))
    go_ret
    exact ⟨ret_bool (by rw [HC2.out, HF.out]), ext_ex bl⟩
   have HP2 : Hid (okElAt els k = (decide (k = 0) || Op.bytesLess (els[k - 1]?.getD zEl).1.toList ps.toList)) := by have := HP.out; unfold Hid; rw [this, HE.out]; simp
   clear HP HE
   by_cases hk0 : k = 0
   ·
    subst hk0
    rw [Nat.zero_mul, Nat.add_zero] at hc0 hc1 hc2 hc3
    have HY := Lib.hid (show okElAt els 0 = true by rw [HP2.out]; rfl)
    go_wp2_with (first | (go_at_call 107; ((with_reducible refine (d0 _).mono ?_); rintro e w' ⟨rfl, rfl⟩)) | (go_at_call 108; ((with_reducible refine (d1 _).mono ?_); rintro e w' ⟨rfl, rfl⟩)) | (go_at_call 91; ((with_reducible refine (d2 _).mono ?_); rintro e w' ⟨rfl, rfl⟩)) | (go_at_call 91; ((with_reducible refine (d3 _).mono ?_); rintro e w' ⟨rfl, rfl⟩)))
    go_quiet (fail)
    go_wp2
    go_roundw
    case rel => exact ⟨0 + 1, _, by omega, by go_num, (ext_ex bl).choose_spec, okEl_more hno HY.out⟩
    case measure => simp [intOf]; omega
   ·
    obtain ⟨j, hj⟩ : ∃ j, k = j + 1 := ⟨k - 1, by omega⟩
    have hjn : j < n := by omega
    obtain ⟨b', off', hab, _, hpj, _⟩ := ha.at_ j hjn
    injection hab with hab
    injection hab with hab1 hab2
    subst hab1 hab2
    have HPj : Hid (okElAt els k = (decide (k = 0) || Op.bytesLess (els[j]?.getD zEl).1.toList ps.toList)) := by have := HP2.out; rwa [show k - 1 = j by omega] at this
    clear HP2
    generalize (els[j]?.getD zEl).1 = pr at *
    have hk1 : k ≤ j + 1 := by omega
    have hk2 : j + 1 ≤ k := by omega
    clear hj
    cases hless : Op.bytesLess pr.toList ps.toList
    ·
     have HF := Lib.hid (HN.out (by rw [HPj.out, hless]; simp [hk0]))
     clear HN HPj
     go_wp2_with (first | (go_at_call 107; ((with_reducible refine (d0 _).mono ?_); rintro e w' ⟨rfl, rfl⟩)) | (go_at_call 108; ((with_reducible refine (d1 _).mono ?_); rintro e w' ⟨rfl, rfl⟩)) | (go_at_call 91; ((with_reducible refine (d2 _).mono ?_); rintro e w' ⟨rfl, rfl⟩)) | (go_at_call 91; ((with_reducible refine (d3 _).mono ?_); rintro e w' ⟨rfl, rfl⟩)))
     have hwI : IntKind.i64.wrap ((k : Int) - 1) = j := by rw [IntWalk.i64_in _ (by omega)]; omega
     have hjI : (j : Int) < n := by omega
     have hkI : (0 : Int) < k := by omega
     have hkd : decide ((0 : Int) < k) = true := decide_eq_true hkI
     have hkN : 0 < k := by omega
     go_quiet (fail)
     go_wp2
     go_ret
     exact ⟨ret_bool (by rw [HC2.out, HF.out]), ext_ex bl⟩
    ·
     have HY := Lib.hid (show okElAt els k = true by rw [HPj.out, hless]; simp)
     clear HN HPj
     go_wp2_with (first | (go_at_call 107; ((with_reducible refine (d0 _).mono ?_); rintro e w' ⟨rfl, rfl⟩)) | (go_at_call 108; ((with_reducible refine (d1 _).mono ?_); rintro e w' ⟨rfl, rfl⟩)) | (go_at_call 91; ((with_reducible refine (d2 _).mono ?_); rintro e w' ⟨rfl, rfl⟩)) | (go_at_call 91; ((with_reducible refine (d3 _).mono ?_); rintro e w' ⟨rfl, rfl⟩)))
     have hwI : IntKind.i64.wrap ((k : Int) - 1) = j := by rw [IntWalk.i64_in _ (by omega)]; omega
     have hjI : (j : Int) < n := by omega
     have hkI : (0 : Int) < k := by omega
     have hkd : decide ((0 : Int) < k) = true := decide_eq_true hkI
     have hkN : 0 < k := by omega
     go_quiet (fail)
     go_wp2
     go_roundw
     case rel => exact ⟨k + 1, _, by omega, by go_num, (ext_ex bl).choose_spec, okEl_more hno HY.out⟩
     case measure => simp [intOf]; omega
  ·
   have HE := Lib.hid (elsB_end (l := els) (fun i hi => hno i (by rw [Hl.out] at hi; omega)))
   go_wp2
   go_ret
   exact ⟨ret_bool (by rw [HC2.out, HE.out]), ext_ex bl⟩
end Go.Proofs.YtmeaklaagglmeaaGreatDoor
