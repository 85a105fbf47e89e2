/- Contracts of the tests on marks, in the program and in the reference. Conditions: lengths below 2^40. -/
import Derived.Test.YtmeaklaagglmeaaGreatDoorXMarks4
import Derived.Test.YtmeaklaagglmeaaGreatDoorXMarksP
set_option linter.unusedVariables false
set_option linter.unusedSimpArgs false
set_option maxRecDepth 100000
namespace Go.Proofs.YtmeaklaagglmeaaGreatDoor
open Go.ChangeShapes Go.WideShapes Go.ChangeAt Go.RowKit
def RdMk (w : World) (A : Option Addr) (n : Nat) (B : Option Addr) (m : Nat) (gg kk : List (List Int)) : Prop :=
 RdM w A n gg ∧ RdM w B m kk ∧ n ≤ 1099511627776 ∧ m ≤ 1099511627776 ∧ (∀ j, j < n → (gg[j]?.getD []).length ≤ 1099511627776) ∧ ∀ j, j < m → (kk[j]?.getD []).length ≤ 1099511627776
theorem RdMk.below {w w' : World} {A B : Option Addr} {n m : Nat} {gg kk : List (List Int)} (h : RdMk w A n B m gg kk) (hb : Below w.heap.size w w') : RdMk w' A n B m gg kk := ⟨h.1.below hb, h.2.1.below hb, h.2.2⟩
theorem RdM.at_ {w : World} {A : Option Addr} {n : Nat} {ll : List (List Int)} (h : RdM w A n ll) (k : Nat) (hk : k < n) : ∃ b off B m d, A = some ⟨b, off, none⟩ ∧ b < w.heap.size ∧ w.cell? ⟨b, off + k, none⟩ = some (.slice B m d) ∧ RdI w B m (ll[k]?.getD []) ∧ m ≤ d ∧ d ≤ maxLen := by
 obtain ⟨b, off, e, hlt, hc⟩ := h.2 (by omega)
 obtain ⟨B, m, d, h1⟩ := hc k hk
 exact ⟨b, off, B, m, d, e, hlt, h1⟩
theorem gRow_len {j : Nat} {l : List Int} (h : l.length = j) : gRowB j l = allB l (-5) 5 := by simp [gRowB, h]
theorem cRow_len {j : Nat} {l : List Int} (h : l.length = j) (h2 : mod25 l = true) : cRowB j l = allB l 0 1000 := by rw [cRow_eq]; simp [h, h2]
theorem cRow_ne {j : Nat} {l : List Int} (h : l.length ≠ j) : cRowB j l = false := by simp [cRowB, h]
theorem cRow_mod {j : Nat} {l : List Int} (h2 : mod25 l = false) : cRowB j l = false := by rw [cRow_eq]; simp [h2]
set_option maxHeartbeats 400000 in
theorem mkListG_any (w : World) (A : Option Addr) (n c : Nat) (l : List Int) (j : Nat) (ha : RdI w A n l) (hn : n ≤ 1099511627776) :
  Calls Tryz.prog 210 #[.slice A n c, .int .i64 j, .bool false] w fun e w' => e = .returned (.bool (gRowB j l)) ∧ w = w' := by
 have Hl := Lib.hid ha.len
 go_enter Tryz.func210, Tryz.ntmps210
 go_wp2
 go_loop [8, 11] (fun _ i => ∃ k : Nat, k ≤ n ∧ i = .int .i64 k) (fun _ i => n - (intOf i).toNat)
 case atStart => exact ⟨0, by omega, rfl⟩
 case round =>
  obtain ⟨k, hk, rfl⟩ := hrel
  by_cases hlt : k < n
  ·
   obtain ⟨b, off, rfl, hb, hc⟩ := ha.open_ (by omega)
   go_wp2
   go_round
   case rel => exact ⟨k + 1, by omega, by go_num⟩
   case measure => simp [intOf]; omega
  ·
   by_cases hnj : n = j
   ·
    subst hnj
    go_wp2_with (go_at_call 99; ((with_reducible refine (l1All_any _ _ _ _ _ _ _ ha hn).mono ?_); rintro e w' ⟨rfl, rfl⟩))
    go_ret
    exact ⟨ret_bool (gRow_len Hl.out).symm, rfl⟩
   ·
    have hne : ((n : Int) == (j : Int)) = false := by simp; omega
    go_wp2
    go_ret
    exact ⟨ret_bool (gRow_of (by rw [Hl.out]; exact hnj)).symm, rfl⟩
set_option maxHeartbeats 400000 in
theorem mkListC_any (w : World) (A : Option Addr) (n c : Nat) (l : List Int) (j : Nat) (ha : RdI w A n l) (hn : n ≤ 1099511627776) :
  Calls Tryz.prog 210 #[.slice A n c, .int .i64 j, .bool true] w fun e w' => e = .returned (.bool (cRowB j l)) ∧ w = w' := by
 have Hl := Lib.hid ha.len
 go_enter Tryz.func210, Tryz.ntmps210
 go_wp2
 go_loop [8, 11] (fun _ i => ∃ k : Nat, k ≤ n ∧ i = .int .i64 k ∧ Hid ((l.take k).all (fun x => x.tmod 25 == 0) = true)) (fun _ i => n - (intOf i).toNat)
 case atStart => exact ⟨0, by omega, rfl, rfl⟩
 case round =>
  obtain ⟨k, hk, rfl, HT⟩ := hrel
  by_cases hlt : k < n
  ·
   obtain ⟨b, off, rfl, hb, hc⟩ := ha.open_ (by omega)
   have hck := hc k hlt
   clear hc
   obtain ⟨x, hx⟩ : ∃ x, l.getD k 0 = x := ⟨_, rfl⟩
   rw [hx] at hck
   rw [List.getD_eq_getElem?_getD] at hx
   have HX := Lib.hid hx
   clear hx
   by_cases hr : x.tmod 25 = 0
   ·
    have Hr := Lib.hid hr
    go_wp2
    go_round
    case rel => exact ⟨k + 1, by omega, by go_num, all_step 0 (by rw [Hl.out]; exact hlt) HT.out (by rw [HX.out, Hr.out]; rfl)⟩
    case measure => simp [intOf]; omega
   ·
    have hr' : (x.tmod 25 != 0) = true := by simpa using hr
    have Hr := Lib.hid hr
    go_wp2
    go_ret
    exact ⟨ret_bool (cRow_mod (all_miss 0 (k := k) (by rw [Hl.out]; exact hlt) (by rw [HX.out]; simpa using Hr.out))).symm, rfl⟩
  ·
   have HM := Lib.hid (all_end HT.out (by rw [Hl.out]; omega))
   by_cases hnj : n = j
   ·
    subst hnj
    go_wp2_with (go_at_call 99; ((with_reducible refine (l1All_any _ _ _ _ _ _ _ ha hn).mono ?_); rintro e w' ⟨rfl, rfl⟩))
    go_ret
    exact ⟨ret_bool (cRow_len Hl.out HM.out).symm, rfl⟩
   ·
    have hne : ((n : Int) == (j : Int)) = false := by simp; omega
    go_wp2
    go_ret
    exact ⟨ret_bool (cRow_ne (by rw [Hl.out]; exact hnj)).symm, rfl⟩
theorem isComponentMark_any (x : Int) (w : World) :
  Calls Tryz.prog 228 #[.int .i64 x] w fun e w' => e = .returned (.bool (compB x)) ∧ w = w' := by
 unfold compB
 cases h1 : inB x 0 1000
 ·
  go_enter Tryz.func228, Tryz.ntmps228
  go_wp2_with (go_at_call 91; ((with_reducible refine (within_any _ _ _ _).mono ?_); rintro e w' ⟨rfl, rfl⟩))
  go_ret
  exact ⟨rfl, rfl⟩
 ·
  go_enter Tryz.func228, Tryz.ntmps228
  go_wp2_with (go_at_call 91; ((with_reducible refine (within_any _ _ _ _).mono ?_); rintro e w' ⟨rfl, rfl⟩))
  go_ret
  exact ⟨rfl, rfl⟩
theorem isMarksF_any (x : Int) (w : World) :
  Calls Tryz.prog 227 #[.int .i64 x] w fun e w' => e = .returned (.bool (!compB x)) ∧ w = w' := by
 go_enter Tryz.func227, Tryz.ntmps227
 go_wp2_with (go_at_call 228; ((with_reducible refine (isComponentMark_any _ _).mono ?_); rintro e w' ⟨rfl, rfl⟩))
 go_ret
 exact ⟨rfl, rfl⟩
def IdxAt (w : World) (b : Bool) (e : Ending) (w' : World) : Prop := ∃ (i : Int), e = .returned (.int .i64 i) ∧ w = w' ∧ decide (0 ≤ i) = b
def badB (l : List Int) : Bool := l.any fun x => !compB x
theorem badB_eq (l : List Int) : badB l = !l.all compB := by
 unfold badB
 induction l with
 | nil => rfl
 | cons a r ih => simp only [List.any_cons, List.all_cons, ih, Bool.not_and]
theorem cRow_bad {j : Nat} {l : List Int} (h : l.length = j) : cRowB j l = !badB l := by rw [badB_eq]; simp [cRowB, h]
set_option maxHeartbeats 400000 in
theorem indexBad_any (w : World) (A : Option Addr) (n c : Nat) (l : List Int) (ha : RdI w A n l) (hn : n ≤ 1099511627776) :
  Calls Tryz.prog 263 #[.slice A n c, .func (.func 227) #[] #[]] w (IdxAt w (badB l)) := by
 have Hl := Lib.hid ha.len
 unfold badB
 go_enter Tryz.func263, Tryz.ntmps263
 go_wp2
 go_loop [5, 8] (fun _ i => ∃ k : Nat, k ≤ n ∧ i = .int .i64 k ∧ Hid ((l.take k).any (fun x => !compB x) = false)) (fun _ i => n - (intOf i).toNat)
 case atStart => exact ⟨0, by omega, rfl, rfl⟩
 case round =>
  obtain ⟨k, hk, rfl, HT⟩ := hrel
  by_cases hlt : k < n
  ·
   obtain ⟨b, off, rfl, hb, hc⟩ := ha.open_ (by omega)
   go_wp2_with (go_at_call 227; ((with_reducible refine (isMarksF_any _ _).mono ?_); rintro e w' ⟨rfl, rfl⟩))
   ·
    have hh : (!compB (l[k]?.getD 0)) = true := by assumption
    go_ret
    exact ⟨k, rfl, rfl, by rw [any_hit 0 (by rw [Hl.out]; exact hlt) hh]; simp⟩
   ·
    have hh : (!compB (l[k]?.getD 0)) = false := by assumption
    go_round
    case rel => exact ⟨k + 1, by omega, by go_num, any_step 0 (by rw [Hl.out]; exact hlt) HT.out hh⟩
    case measure => simp [intOf]; omega
  ·
   have Hend := Lib.hid (any_end HT.out (by rw [Hl.out]; omega))
   go_wp2
   go_ret
   exact ⟨-1, rfl, rfl, by rw [Hend.out]; rfl⟩
theorem containsBad_any (w : World) (A : Option Addr) (n c : Nat) (l : List Int) (ha : RdI w A n l) (hn : n ≤ 1099511627776) :
  Calls Tryz.prog 226 #[.slice A n c, .func (.func 227) #[] #[]] w fun e w' => e = .returned (.bool (badB l)) ∧ w = w' := by
 go_enter Tryz.func226, Tryz.ntmps226
 go_wp2_with (go_at_call 263; ((with_reducible refine (indexBad_any _ _ _ _ _ ha hn).mono ?_); rintro e w' ⟨i, rfl, rfl, hi⟩))
 go_ret
 exact ⟨by simp_all, rfl⟩
theorem judgesOf_any (w : World) (A B : Option Addr) (n m c d : Nat) (gg kk : List (List Int)) (hm : RdMk w A n B m gg kk) (h0 : 0 < m) :
  Calls Tryz.prog 225 #[.agg #[.slice A n c, .slice B m d]] w fun e w' => e = .returned (.int .i64 (judgesN kk)) ∧ ∃ x, w' = ext w x := by
 obtain ⟨b, off, B0, m0, d0, rfl, hb, hc, hr, _, _⟩ := hm.2.1.at_ 0 h0
 have hj : judgesN kk = m0 := hr.len
 rw [hj]
 rw [Nat.add_zero] at hc
 clear hj hr
 go_enter Tryz.func225, Tryz.ntmps225
 go_wp2
 go_ret
 exact ⟨rfl, ext_ex bl⟩
set_option maxHeartbeats 1000000 in
theorem mkAll_any (w : World) (A B : Option Addr) (n m c d : Nat) (gg kk : List (List Int)) (hm : RdMk w A n B m gg kk) :
  Calls Tryz.prog 163 #[.agg #[.slice A n c, .slice B m d]] w fun e w' => e = .returned (.bool (marksB gg kk)) ∧ ∃ x, w' = ext w x := by
 have hmk := hm
 obtain ⟨hA, hB, hn, hm40, hrg, hrk⟩ := hm
 have HlA := Lib.hid hA.len
 have HlB := Lib.hid hB.len
 by_cases h3 : m = 3
 case neg =>
  have h3' : ((m : Int) != 3) = true := by simp; omega
  have Hno := Lib.hid (marksB_no3 (gg := gg) (show kk.length ≠ 3 by rw [HlB.out]; exact h3))
  go_enter Tryz.func163, Tryz.ntmps163
  go_wp2
  all_goals go_ret
  all_goals exact ⟨ret_bool Hno.out.symm, ext_ex bl⟩
 have h3' : ((m : Int) != 3) = false := by simp; omega
 by_cases h14 : n ≤ 14
 case neg =>
  have h14' : (14 : Int) < n := by omega
  have Hno := Lib.hid (marksB_no14 (gg := gg) (kk := kk) (show 14 < gg.length by rw [HlA.out]; omega))
  go_enter Tryz.func163, Tryz.ntmps163
  go_wp2
  go_ret
  exact ⟨ret_bool Hno.out.symm, ext_ex bl⟩
 have h14' : ¬ (14 : Int) < n := by omega
 obtain ⟨b, off, B0, m0, d0, rfl, hb, hc, hr, _, _⟩ := hB.at_ 0 (by omega)
 have hm0 : 0 < m := by omega
 have HJ := Lib.hid (show judgesN kk = m0 from hr.len)
 have H3 := Lib.hid h3
 rw [Nat.add_zero] at hc
 clear hr h3
 go_enter Tryz.func163, Tryz.ntmps163
 go_wp2
 go_loopw [5, 26] (fun _ i wr => ∃ (k : Nat) (x : World), k ≤ n ∧ i = .int .i64 k ∧ wr = ext (w.alloc (.cells #[.slice A n c, .slice (some ⟨b, off, none⟩) m d] 30)) x ∧ Hid ((gg.take k).all (gRowB m0) = true)) (fun _ i _ => n - (intOf i).toNat)
 case atStart => exact ⟨0, _, by omega, rfl, ext_self _, rfl⟩
 case round =>
  obtain ⟨k, xG, hk, rfl, rfl, HT⟩ := hrel
  by_cases hlt : k < n
  ·
   obtain ⟨b1, o1, B1, m1, d1, rfl, hb1, hc1, hr, _, _⟩ := hA.at_ k hlt
   skip
   have hrb : m1 ≤ 1099511627776 := by have := hrg k hlt; rw [hr.len] at this; exact this
   obtain ⟨lk, hlk⟩ : ∃ lk, gg[k]?.getD [] = lk := ⟨_, rfl⟩
   rw [hlk] at hr
   have HL := Lib.hid hlk
   clear hlk
   go_wp2_with (first | (go_at_call 210; ((with_reducible refine (mkListG_any _ _ _ _ _ _ (hr.below bl) hrb).mono ?_); rintro e w' ⟨rfl, rfl⟩)))
   ·
    have hh : (!gRowB m0 lk) = true := by assumption
    go_ret
    exact ⟨ret_bool (marksB_noG (k := k) (by rw [HlA.out]; exact hlt) (by rw [HJ.out, HL.out]; simpa using hh)).symm, ext_ex bl⟩
   ·
    have hh : (!gRowB m0 lk) = false := by assumption
    go_roundw
    case rel => exact ⟨k + 1, _, by omega, by go_num, (ext_ex bl).choose_spec, all_step [] (by rw [HlA.out]; exact hlt) HT.out (by rw [HL.out]; simpa using hh)⟩
    case measure => simp [intOf]; omega
  ·
   have HGA := Lib.hid (show gg.all (gRowB m0) = true from all_end HT.out (by rw [HlA.out]; omega))
   go_wp2
   go_loopw [7, 38] (fun _ i wr => ∃ (k : Nat) (x : World), k ≤ m ∧ i = .int .i64 k ∧ wr = ext (w.alloc (.cells #[.slice A n c, .slice (some ⟨b, off, none⟩) m d] 30)) x ∧ Hid ((kk.take k).all (cRowB m0) = true)) (fun _ i _ => m - (intOf i).toNat)
   case atStart => exact ⟨0, _, by omega, rfl, rfl, rfl⟩
   case round =>
    obtain ⟨k, xC, hk, rfl, rfl, HT⟩ := hrel
    by_cases hlt : k < m
    ·
     obtain ⟨b1, o1, B1, m1, d1, hbe, hb1, hc1, hr, _, _⟩ := hB.at_ k hlt
     injection hbe with hbe; injection hbe with hbe1 hbe2; subst hbe1 hbe2
     have hrb : m1 ≤ 1099511627776 := by have := hrk k hlt; rw [hr.len] at this; exact this
     obtain ⟨lk, hlk⟩ : ∃ lk, kk[k]?.getD [] = lk := ⟨_, rfl⟩
     rw [hlk] at hr
     have HL := Lib.hid hlk
     clear hlk
     go_wp2_with (first | (go_at_call 210; ((with_reducible refine (mkListC_any _ _ _ _ _ _ (hr.below bl) hrb).mono ?_); rintro e w' ⟨rfl, rfl⟩)))
     ·
      have hh : (!cRowB m0 lk) = true := by assumption
      go_ret
      exact ⟨ret_bool (marksB_noC (k := k) (by rw [HlB.out]; exact hlt) (by rw [HJ.out, HL.out]; simpa using hh)).symm, ext_ex bl⟩
     ·
      have hh : (!cRowB m0 lk) = false := by assumption
      go_roundw
      case rel => exact ⟨k + 1, _, by omega, by go_num, (ext_ex bl).choose_spec, all_step [] (by rw [HlB.out]; exact hlt) HT.out (by rw [HL.out]; simpa using hh)⟩
      case measure => simp [intOf]; omega
    ·
     have HCA := Lib.hid (show kk.all (cRowB m0) = true from all_end HT.out (by rw [HlB.out]; omega))
     have Hfin := Lib.hid (show marksB gg kk = inB m0 3 9 by rw [marksB_yes (by rw [HlB.out, H3.out]) (by rw [HlA.out]; exact h14) (by rw [gAllB, HJ.out]; exact HGA.out) (by rw [cAllB, HJ.out]; exact HCA.out), HJ.out])
     go_wp2_with (go_at_call 87; ((with_reducible refine (l1In_any _ _ _ _).mono ?_); rintro e w' ⟨rfl, rfl⟩))
     go_ret
     exact ⟨ret_bool Hfin.out.symm, ext_ex bl⟩
set_option maxHeartbeats 1000000 in
theorem isMarks_any (w : World) (A B : Option Addr) (n m c d : Nat) (gg kk : List (List Int)) (hm : RdMk w A n B m gg kk) :
  Calls Tryz.prog 178 #[.agg #[.slice A n c, .slice B m d]] w fun e w' => e = .returned (.bool (marksB gg kk)) ∧ ∃ x, w' = ext w x := by
 have hmk := hm
 obtain ⟨hA, hB, hn, hm40, hrg, hrk⟩ := hm
 have HlA := Lib.hid hA.len
 have HlB := Lib.hid hB.len
 by_cases h3 : m = 3
 case neg =>
  have h3' : ((m : Int) != 3) = true := by simp; omega
  have Hno := Lib.hid (marksB_no3 (gg := gg) (show kk.length ≠ 3 by rw [HlB.out]; exact h3))
  go_enter Tryz.func178, Tryz.ntmps178
  go_wp2
  all_goals go_ret
  all_goals exact ⟨ret_bool Hno.out.symm, ext_ex bl⟩
 have h3' : ((m : Int) != 3) = false := by simp; omega
 by_cases h14 : n ≤ 14
 case neg =>
  have h14' : (14 : Int) < n := by omega
  have Hno := Lib.hid (marksB_no14 (gg := gg) (kk := kk) (show 14 < gg.length by rw [HlA.out]; omega))
  go_enter Tryz.func178, Tryz.ntmps178
  go_wp2
  go_ret
  exact ⟨ret_bool Hno.out.symm, ext_ex bl⟩
 have h14' : ¬ (14 : Int) < n := by omega
 obtain ⟨b, off, B0, m0, d0, rfl, hb, hc, hr, _, _⟩ := hB.at_ 0 (by omega)
 have hm0 : 0 < m := by omega
 have HJ := Lib.hid (show judgesN kk = m0 from hr.len)
 have H3 := Lib.hid h3
 rw [Nat.add_zero] at hc
 clear hr h3
 cases hj : inB m0 3 9
 ·
  have Hno := Lib.hid (marksB_noJ (gg := gg) (kk := kk) (by rw [HJ.out]; exact hj))
  go_enter Tryz.func178, Tryz.ntmps178
  go_wp2_with (go_at_call 91; ((with_reducible refine (within_any _ _ _ _).mono ?_); rintro e w' ⟨rfl, rfl⟩))
  go_ret
  exact ⟨ret_bool Hno.out.symm, ext_ex bl⟩
 go_enter Tryz.func178, Tryz.ntmps178
 go_wp2_with (go_at_call 91; ((with_reducible refine (within_any _ _ _ _).mono ?_); rintro e w' ⟨rfl, rfl⟩))
 go_loopw [4, 29] (fun _ i wr => ∃ (k : Nat) (x : World), k ≤ n ∧ i = .int .i64 k ∧ wr = ext (w.alloc (.cells #[.slice A n c, .slice (some ⟨b, off, none⟩) m d] 30)) x ∧ Hid ((gg.take k).all (gRowB m0) = true)) (fun _ i _ => n - (intOf i).toNat)
 case atStart => exact ⟨0, _, by omega, rfl, ext_self _, rfl⟩
 case round =>
  obtain ⟨k, xG, hk, rfl, rfl, HT⟩ := hrel
  by_cases hlt : k < n
  ·
   obtain ⟨b1, o1, B1, m1, d1, rfl, hb1, hc1, hr, _, _⟩ := hA.at_ k hlt
   skip
   have hrb : m1 ≤ 1099511627776 := by have := hrg k hlt; rw [hr.len] at this; exact this
   obtain ⟨lk, hlk⟩ : ∃ lk, gg[k]?.getD [] = lk := ⟨_, rfl⟩
   rw [hlk] at hr
   have HL := Lib.hid hlk
   clear hlk
   by_cases hm1 : m1 = m0
   ·
    have hq : ((m1 : Int) != (m0 : Int)) = false := by simp; omega
    have hrl : lk.length = m0 := by rw [hr.len]; exact hm1
    have Hrl := Lib.hid (gRow_len hrl)
    clear hrl hm1
    go_wp2_with (first | (go_at_call 225; ((with_reducible refine (judgesOf_any _ _ _ _ _ _ _ _ _ (hmk.below bl) hm0).mono ?_); rintro e w' ⟨rfl, z, rfl⟩; rw [HJ.out])) | (go_at_call 106; ((with_reducible refine (allWithin_any _ _ _ _ _ _ _ (hr.below bl) hrb).mono ?_); rintro e w' ⟨rfl, rfl⟩)))
    ·
     have hh : (!allB lk (-5) 5) = true := by assumption
     go_ret
     exact ⟨ret_bool (marksB_noG (k := k) (by rw [HlA.out]; exact hlt) (by rw [HJ.out, HL.out, Hrl.out]; simpa using hh)).symm, ext_ex bl⟩
    ·
     have hh : (!allB lk (-5) 5) = false := by assumption
     go_roundw
     case rel => exact ⟨k + 1, _, by omega, by go_num, (ext_ex bl).choose_spec, all_step [] (by rw [HlA.out]; exact hlt) HT.out (by rw [HL.out, Hrl.out]; simpa using hh)⟩
     case measure => simp [intOf]; omega
   ·
    have hq : ((m1 : Int) != (m0 : Int)) = true := by simp; omega
    have Hrl := Lib.hid (gRow_of (l := lk) (j := m0) (by rw [hr.len]; exact hm1))
    clear hm1
    go_wp2_with (first | (go_at_call 225; ((with_reducible refine (judgesOf_any _ _ _ _ _ _ _ _ _ (hmk.below bl) hm0).mono ?_); rintro e w' ⟨rfl, z, rfl⟩; rw [HJ.out])))
    go_ret
    exact ⟨ret_bool (marksB_noG (k := k) (by rw [HlA.out]; exact hlt) (by rw [HJ.out, HL.out, Hrl.out])).symm, ext_ex bl⟩
  ·
   have HGA := Lib.hid (show gg.all (gRowB m0) = true from all_end HT.out (by rw [HlA.out]; omega))
   go_wp2
   go_loopw [6, 47] (fun _ i wr => ∃ (k : Nat) (x : World), k ≤ m ∧ i = .int .i64 k ∧ wr = ext (w.alloc (.cells #[.slice A n c, .slice (some ⟨b, off, none⟩) m d] 30)) x ∧ Hid ((kk.take k).all (cRowB m0) = true)) (fun _ i _ => m - (intOf i).toNat)
   case atStart => exact ⟨0, _, by omega, rfl, rfl, rfl⟩
   case round =>
    obtain ⟨k, xC, hk, rfl, rfl, HT⟩ := hrel
    by_cases hlt : k < m
    ·
     obtain ⟨b1, o1, B1, m1, d1, hbe, hb1, hc1, hr, _, _⟩ := hB.at_ k hlt
     injection hbe with hbe; injection hbe with hbe1 hbe2; subst hbe1 hbe2
     have hrb : m1 ≤ 1099511627776 := by have := hrk k hlt; rw [hr.len] at this; exact this
     obtain ⟨lk, hlk⟩ : ∃ lk, kk[k]?.getD [] = lk := ⟨_, rfl⟩
     rw [hlk] at hr
     have HL := Lib.hid hlk
     clear hlk
     by_cases hm1 : m1 = m0
     ·
      have hq : ((m1 : Int) != (m0 : Int)) = false := by simp; omega
      have hrl : lk.length = m0 := by rw [hr.len]; exact hm1
      have Hrl := Lib.hid (cRow_bad hrl)
      clear hrl hm1
      go_wp2_with (first | (go_at_call 225; ((with_reducible refine (judgesOf_any _ _ _ _ _ _ _ _ _ (hmk.below bl) hm0).mono ?_); rintro e w' ⟨rfl, z, rfl⟩; rw [HJ.out])) | (go_at_call 226; ((with_reducible refine (containsBad_any _ _ _ _ _ (hr.below bl) hrb).mono ?_); rintro e w' ⟨rfl, rfl⟩)))
      ·
       have hh : badB lk = true := by assumption
       go_ret
       exact ⟨ret_bool (marksB_noC (k := k) (by rw [HlB.out]; exact hlt) (by rw [HJ.out, HL.out, Hrl.out]; simpa using hh)).symm, ext_ex bl⟩
      ·
       have hh : badB lk = false := by assumption
       go_roundw
       case rel => exact ⟨k + 1, _, by omega, by go_num, (ext_ex bl).choose_spec, all_step [] (by rw [HlB.out]; exact hlt) HT.out (by rw [HL.out, Hrl.out]; simpa using hh)⟩
       case measure => simp [intOf]; omega
     ·
      have hq : ((m1 : Int) != (m0 : Int)) = true := by simp; omega
      have Hrl := Lib.hid (cRow_ne (l := lk) (j := m0) (by rw [hr.len]; exact hm1))
      clear hm1
      go_wp2_with (first | (go_at_call 225; ((with_reducible refine (judgesOf_any _ _ _ _ _ _ _ _ _ (hmk.below bl) hm0).mono ?_); rintro e w' ⟨rfl, z, rfl⟩; rw [HJ.out])))
      go_ret
      exact ⟨ret_bool (marksB_noC (k := k) (by rw [HlB.out]; exact hlt) (by rw [HJ.out, HL.out, Hrl.out])).symm, ext_ex bl⟩
    ·
     have HCA := Lib.hid (show kk.all (cRowB m0) = true from all_end HT.out (by rw [HlB.out]; omega))
     have Hfin := Lib.hid (show marksB gg kk = inB m0 3 9 by rw [marksB_yes (by rw [HlB.out, H3.out]) (by rw [HlA.out]; exact h14) (by rw [gAllB, HJ.out]; exact HGA.out) (by rw [cAllB, HJ.out]; exact HCA.out), HJ.out])
     rw [hj] at Hfin
     go_wp2
     go_ret
     exact ⟨ret_bool Hfin.out.symm, ext_ex bl⟩
end Go.Proofs.YtmeaklaagglmeaaGreatDoor
