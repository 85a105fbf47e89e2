/- LeaderAt of the program and of the reference. Conditions: lengths below 2^40. -/
import Derived.Test.YtogglhgagblihaaZBoard4
set_option linter.unusedVariables false
set_option linter.unusedSimpArgs false
set_option maxRecDepth 100000
namespace Go.Proofs.Ytogglhgagblihaa
open Go.RowKit
def ldI (T : List Int) : Int := if T.length = 0 then -1 else T[0]?.getD 0
def ldS (l : List (Int × Int)) (T : List Int) : Int := if T.length = 0 then 0 else (l[(T[0]?.getD 0).toNat]?.getD (0, 0)).1
def ldB (l : List (Int × Int)) (a b c gap : Int) (S : List Int) (t : Int) : Bool := boB l a b c gap S t && decide (0 < (bdT l a b c gap S t).length)
def ldV (l : List (Int × Int)) (a b c gap : Int) (S : List Int) (t : Int) : Int := if ldB l a b c gap S t then ldS l (bdT l a b c gap S t) else 0
theorem retIntB_mk {w W : World} {v : Int} {ok : Bool} (hb : Below w.heap.size w W) : RetIntB w v ok (.returned (.tuple #[.int .i64 v, .bool ok])) W := by
  obtain ⟨x, rfl⟩ := ext_ex hb
  exact ⟨x, rfl, rfl⟩
theorem slot_pos {l : List (Int × Int)} (h : slotsB l = true) (i : Nat) (hi : i < l.length) : 1 ≤ (l[i]?.getD (0, 0)).1 ∧ (l[i]?.getD (0, 0)).1 ≤ 999 := by
  have := (slotsB_of h).1 i hi
  simp only [slotOkAt, Bool.and_eq_true] at this
  exact inB_iff.1 this.1.1
set_option maxHeartbeats 1000000 in
theorem srLeader_any (w : World) (L : Option Addr) (n cl : Nat) (l : List (Int × Int)) (a b c gap t : Int) (A : Option Addr) (m cs : Nat) (S : List Int) (hl : RdS w L n l) (hn : n ≤ 1099511627776) (hr : RdI w A m S) (hsc : scB l a b c gap S = true) :
    Calls Try.prog 88 #[.slice L n cl, .agg #[.int .i64 a, .int .i64 b, .int .i64 c, .int .i64 gap], .slice A m cs, .int .i64 t] w fun e w' => e = .returned (.int .i64 (ldI (bdT l a b c gap S t))) ∧ ∃ x, w' = ext w x := by
  obtain ⟨ht, hSl, hSb⟩ := scB_of hsc
  have hmn : m = n := by rw [← hr.len, hSl, hl.len]
  subst hmn
  have cB := fun w' h1 h2 => (srBoard_any w' L m cl l a b c gap t A cs S h1 hn ht h2 hSb).mono fun e w'' h => RetBd.to hl.len h
  clear hSl hsc ht hSb
  generalize bdT l a b c gap S t = T at *
  by_cases h0 : T.length = 0
  · have HV := Lib.hid (show ldI T = -1 from if_pos h0)
    go_enter Try.func88, Try.ntmps88
    go_wp2_with (first | (go_at_call 86; ((with_reducible refine (cB _ (hl.below (by repeat (first | exact Below.refl _ _ | assumption | refine bExt ?_ _ | refine bAlloc ?_ _ | refine bDrewN ?_ _ | refine bDrew ?_ | refine bSet ?_ (by first | exact Nat.le_refl _ | omega | (simp; done) | (simp; omega)) _))) (hr.below (by repeat (first | exact Below.refl _ _ | assumption | refine bExt ?_ _ | refine bAlloc ?_ _ | refine bDrewN ?_ _ | refine bDrew ?_ | refine bSet ?_ (by first | exact Nat.le_refl _ | omega | (simp; done) | (simp; omega)) _)))).mono ?_); rintro e w' ⟨A1, n1, c1, x1, rfl, rfl, o1⟩; (obtain rfl : n1 = 0 := o1.len.symm.trans h0))))
    go_ret
    exact ⟨ret_int HV.out.symm, ext_ex (by repeat (first | exact Below.refl _ _ | assumption | refine bExt ?_ _ | refine bAlloc ?_ _ | refine bDrewN ?_ _ | refine bDrew ?_ | refine bSet ?_ (by first | exact Nat.le_refl _ | omega | (simp; done) | (simp; omega)) _))⟩
  · have HV := Lib.hid (show ldI T = T[0]?.getD 0 from if_neg h0)
    go_enter Try.func88, Try.ntmps88
    go_wp2_with (first | (go_at_call 86; ((with_reducible refine (cB _ (hl.below (by repeat (first | exact Below.refl _ _ | assumption | refine bExt ?_ _ | refine bAlloc ?_ _ | refine bDrewN ?_ _ | refine bDrew ?_ | refine bSet ?_ (by first | exact Nat.le_refl _ | omega | (simp; done) | (simp; omega)) _))) (hr.below (by repeat (first | exact Below.refl _ _ | assumption | refine bExt ?_ _ | refine bAlloc ?_ _ | refine bDrewN ?_ _ | refine bDrew ?_ | refine bSet ?_ (by first | exact Nat.le_refl _ | omega | (simp; done) | (simp; omega)) _)))).mono ?_); rintro e w' ⟨A1, n1, c1, x1, rfl, rfl, o1⟩; (have hn1 : 0 < n1 := by rw [← o1.len]; omega); (have hn2 : ((n1 : Int) == 0) = false := by simp; omega); (have hn3 : (0 : Int) < n1 := by omega); (obtain ⟨g, rfl, hg1, hg2⟩ := o1.form_ hn1); (have hc0 := o1.cell_ 0 hn1))))
    go_ret
    exact ⟨ret_int HV.out.symm, ext_ex (by repeat (first | exact Below.refl _ _ | assumption | refine bExt ?_ _ | refine bAlloc ?_ _ | refine bDrewN ?_ _ | refine bDrew ?_ | refine bSet ?_ (by first | exact Nat.le_refl _ | omega | (simp; done) | (simp; omega)) _))⟩
set_option maxHeartbeats 1000000 in
theorem leaderAt_any (w : World) (L : Option Addr) (n cl : Nat) (l : List (Int × Int)) (a b c gap t : Int) (A : Option Addr) (m cs : Nat) (S : List Int) (hl : RdS w L n l) (hn : n ≤ 1099511627776) (hr : RdI w A m S) (hsc : scB l a b c gap S = true) :
    Calls Try.prog 87 #[.slice L n cl, .agg #[.int .i64 a, .int .i64 b, .int .i64 c, .int .i64 gap], .slice A m cs, .int .i64 t] w fun e w' => e = .returned (.int .i64 (ldS l (bdT l a b c gap S t))) ∧ ∃ x, w' = ext w x := by
  obtain ⟨ht, hSl, hSb⟩ := scB_of hsc
  have hmn : m = n := by rw [← hr.len, hSl, hl.len]
  subst hmn
  have cB := fun w' h1 h2 => (boardAt_any w' L m cl l a b c gap t A cs S h1 hn ht h2 hSb).mono fun e w'' h => RetBd.to hl.len h
  have HTm := Lib.hid (fun x => bdT_mem (a := a) (b := b) (c := c) (gap := gap) (t := t) (S := S) hl.len (x := x))
  clear hSl hsc ht hSb
  generalize bdT l a b c gap S t = T at *
  by_cases h0 : T.length = 0
  · have HV := Lib.hid (show ldS l T = 0 from if_pos h0)
    go_enter Try.func87, Try.ntmps87
    go_wp2_with (first | (go_at_call 84; ((with_reducible refine (cB _ (hl.below (by repeat (first | exact Below.refl _ _ | assumption | refine bExt ?_ _ | refine bAlloc ?_ _ | refine bDrewN ?_ _ | refine bDrew ?_ | refine bSet ?_ (by first | exact Nat.le_refl _ | omega | (simp; done) | (simp; omega)) _))) (hr.below (by repeat (first | exact Below.refl _ _ | assumption | refine bExt ?_ _ | refine bAlloc ?_ _ | refine bDrewN ?_ _ | refine bDrew ?_ | refine bSet ?_ (by first | exact Nat.le_refl _ | omega | (simp; done) | (simp; omega)) _)))).mono ?_); rintro e w' ⟨A1, n1, c1, x1, rfl, rfl, o1⟩; (obtain rfl : n1 = 0 := o1.len.symm.trans h0))))
    go_ret
    exact ⟨ret_int HV.out.symm, ext_ex (by repeat (first | exact Below.refl _ _ | assumption | refine bExt ?_ _ | refine bAlloc ?_ _ | refine bDrewN ?_ _ | refine bDrew ?_ | refine bSet ?_ (by first | exact Nat.le_refl _ | omega | (simp; done) | (simp; omega)) _))⟩
  · obtain ⟨i, hi, hie⟩ := HTm.out _ (getD_mem 0 T 0 (by omega))
    have HV := Lib.hid (show ldS l T = (l[i]?.getD (0, 0)).1 by rw [ldS, if_neg h0, hie]; rfl)
    obtain ⟨b2, o2, rfl, hb2, hm0, hm1⟩ := hl.at_ i hi
    have hiI : (i : Int) < m := by omega
    go_enter Try.func87, Try.ntmps87
    go_wp2_with (first | (go_at_call 84; ((with_reducible refine (cB _ (hl.below (by repeat (first | exact Below.refl _ _ | assumption | refine bExt ?_ _ | refine bAlloc ?_ _ | refine bDrewN ?_ _ | refine bDrew ?_ | refine bSet ?_ (by first | exact Nat.le_refl _ | omega | (simp; done) | (simp; omega)) _))) (hr.below (by repeat (first | exact Below.refl _ _ | assumption | refine bExt ?_ _ | refine bAlloc ?_ _ | refine bDrewN ?_ _ | refine bDrew ?_ | refine bSet ?_ (by first | exact Nat.le_refl _ | omega | (simp; done) | (simp; omega)) _)))).mono ?_); rintro e w' ⟨A1, n1, c1, x1, rfl, rfl, o1⟩; (have hn1 : 0 < n1 := by rw [← o1.len]; omega); (have hn2 : ((n1 : Int) == 0) = false := by simp; omega); (have hn3 : (0 : Int) < n1 := by omega); (obtain ⟨g, rfl, hg1, hg2⟩ := o1.form_ hn1); (have hc0 := o1.cell_ 0 hn1); (rw [hie] at hc0))))
    go_ret
    exact ⟨ret_int HV.out.symm, ext_ex (by repeat (first | exact Below.refl _ _ | assumption | refine bExt ?_ _ | refine bAlloc ?_ _ | refine bDrewN ?_ _ | refine bDrew ?_ | refine bSet ?_ (by first | exact Nat.le_refl _ | omega | (simp; done) | (simp; omega)) _))⟩
set_option maxHeartbeats 2000000 in
theorem specLeaderAt_any (w : World) (L : Option Addr) (n cl : Nat) (l : List (Int × Int)) (a b c gap t : Int) (A : Option Addr) (m cs : Nat) (S : List Int) (hl : RdS w L n l) (hn : n ≤ 1099511627776) (hr : RdI w A m S) (hm : m ≤ 1099511627776) :
    Calls Try.prog 30 #[.slice L n cl, .agg #[.int .i64 a, .int .i64 b, .int .i64 c, .int .i64 gap], .slice A m cs, .int .i64 t] w (RetIntB w (ldV l a b c gap S t) (ldB l a b c gap S t)) := by
  have cA := fun w' h1 h2 => srAsked_any w' L n cl l a b c gap A m cs S h1 hn h2 hm
  cases hk : boB l a b c gap S t
  · have hv : ldB l a b c gap S t = false := by simp [ldB, hk]
    have hv2 : ldV l a b c gap S t = 0 := by simp [ldV, hv]
    rw [hv, hv2]
    unfold boB at hk
    cases hsc : scB l a b c gap S
    · rw [hsc] at cA
      go_enter Try.func30, Try.ntmps30
      go_wp2_with (first | (go_at_call 85; ((with_reducible refine (cA _ (hl.below (by repeat (first | exact Below.refl _ _ | assumption | refine bExt ?_ _ | refine bAlloc ?_ _ | refine bDrewN ?_ _ | refine bDrew ?_ | refine bSet ?_ (by first | exact Nat.le_refl _ | omega | (simp; done) | (simp; omega)) _))) (hr.below (by repeat (first | exact Below.refl _ _ | assumption | refine bExt ?_ _ | refine bAlloc ?_ _ | refine bDrewN ?_ _ | refine bDrew ?_ | refine bSet ?_ (by first | exact Nat.le_refl _ | omega | (simp; done) | (simp; omega)) _)))).mono ?_); rintro e w' ⟨rfl, x, rfl⟩)) | (go_at_call 70; ((with_reducible refine (tiClock_any _ _).mono ?_); rintro e w' ⟨rfl, rfl⟩)))
      all_goals first | (go_ret2; exact retIntB_mk (by repeat (first | exact Below.refl _ _ | assumption | refine bExt ?_ _ | refine bAlloc ?_ _ | refine bDrewN ?_ _ | refine bDrew ?_ | refine bSet ?_ (by first | exact Nat.le_refl _ | omega | (simp; done) | (simp; omega)) _))) | (exfalso; simp_all)
    · rw [hsc] at cA
      have hti : inB t 0 200000 = false := by simpa [hsc] using hk
      clear hk
      go_enter Try.func30, Try.ntmps30
      go_wp2_with (first | (go_at_call 85; ((with_reducible refine (cA _ (hl.below (by repeat (first | exact Below.refl _ _ | assumption | refine bExt ?_ _ | refine bAlloc ?_ _ | refine bDrewN ?_ _ | refine bDrew ?_ | refine bSet ?_ (by first | exact Nat.le_refl _ | omega | (simp; done) | (simp; omega)) _))) (hr.below (by repeat (first | exact Below.refl _ _ | assumption | refine bExt ?_ _ | refine bAlloc ?_ _ | refine bDrewN ?_ _ | refine bDrew ?_ | refine bSet ?_ (by first | exact Nat.le_refl _ | omega | (simp; done) | (simp; omega)) _)))).mono ?_); rintro e w' ⟨rfl, x, rfl⟩)) | (go_at_call 70; ((with_reducible refine (tiClock_any _ _).mono ?_); rintro e w' ⟨rfl, rfl⟩)))
      all_goals first | (go_ret2; exact retIntB_mk (by repeat (first | exact Below.refl _ _ | assumption | refine bExt ?_ _ | refine bAlloc ?_ _ | refine bDrewN ?_ _ | refine bDrew ?_ | refine bSet ?_ (by first | exact Nat.le_refl _ | omega | (simp; done) | (simp; omega)) _))) | (exfalso; simp_all)
  · have hk' := hk
    simp only [boB, Bool.and_eq_true] at hk'
    obtain ⟨hsc, htt⟩ := hk'
    obtain rfl : n = m := by rw [← hr.len, (scB_of hsc).2.1, hl.len]
    have hsl := (timedB_of (scB_of hsc).1).1
    have cL := fun w' h1 h2 => srLeader_any w' L n cl l a b c gap t A n cs S h1 hn h2 hsc
    have HTm := Lib.hid (fun x => bdT_mem (a := a) (b := b) (c := c) (gap := gap) (t := t) (S := S) hl.len (x := x))
    have hB : ldB l a b c gap S t = decide (0 < (bdT l a b c gap S t).length) := by simp [ldB, hk]
    have hV : ldV l a b c gap S t = ldS l (bdT l a b c gap S t) := by
      unfold ldV
      rw [hB]
      by_cases h : (bdT l a b c gap S t).length = 0
      · rw [h, ldS, if_pos h]; rfl
      · rw [if_pos (decide_eq_true (by omega))]
    rw [hB, hV]
    rw [hsc] at cA
    have Hl := Lib.hid hl.len
    clear hB hV hk
    generalize bdT l a b c gap S t = T at *
    by_cases h0 : T.length = 0
    · rw [show ldS l T = 0 from if_pos h0, show decide (0 < T.length) = false by rw [h0]; rfl]
      have hI : ldI T = -1 := if_pos h0
      rw [hI] at cL
      go_enter Try.func30, Try.ntmps30
      go_wp2_with (first | (go_at_call 85; ((with_reducible refine (cA _ (hl.below (by repeat (first | exact Below.refl _ _ | assumption | refine bExt ?_ _ | refine bAlloc ?_ _ | refine bDrewN ?_ _ | refine bDrew ?_ | refine bSet ?_ (by first | exact Nat.le_refl _ | omega | (simp; done) | (simp; omega)) _))) (hr.below (by repeat (first | exact Below.refl _ _ | assumption | refine bExt ?_ _ | refine bAlloc ?_ _ | refine bDrewN ?_ _ | refine bDrew ?_ | refine bSet ?_ (by first | exact Nat.le_refl _ | omega | (simp; done) | (simp; omega)) _)))).mono ?_); rintro e w' ⟨rfl, x, rfl⟩)) | (go_at_call 70; ((with_reducible refine (tiClock_any _ _).mono ?_); rintro e w' ⟨rfl, rfl⟩)) | (go_at_call 88; ((with_reducible refine (cL _ (hl.below (by repeat (first | exact Below.refl _ _ | assumption | refine bExt ?_ _ | refine bAlloc ?_ _ | refine bDrewN ?_ _ | refine bDrew ?_ | refine bSet ?_ (by first | exact Nat.le_refl _ | omega | (simp; done) | (simp; omega)) _))) (hr.below (by repeat (first | exact Below.refl _ _ | assumption | refine bExt ?_ _ | refine bAlloc ?_ _ | refine bDrewN ?_ _ | refine bDrew ?_ | refine bSet ?_ (by first | exact Nat.le_refl _ | omega | (simp; done) | (simp; omega)) _)))).mono ?_); rintro e w' ⟨rfl, x1, rfl⟩)))
      all_goals first | (go_ret2; exact retIntB_mk (by repeat (first | exact Below.refl _ _ | assumption | refine bExt ?_ _ | refine bAlloc ?_ _ | refine bDrewN ?_ _ | refine bDrew ?_ | refine bSet ?_ (by first | exact Nat.le_refl _ | omega | (simp; done) | (simp; omega)) _))) | (exfalso; simp_all)
    · obtain ⟨i, hi, hie⟩ := HTm.out _ (getD_mem 0 T 0 (by omega))
      rw [show ldS l T = (l[i]?.getD (0, 0)).1 by rw [ldS, if_neg h0, hie]; rfl, show decide (0 < T.length) = true from decide_eq_true (by omega)]
      have hI : ldI T = (i : Int) := by rw [ldI, if_neg h0, hie]
      rw [hI] at cL
      clear hI hie
      obtain ⟨b2, o2, rfl, hb2, hm0, hm1⟩ := hl.at_ i hi
      have hiI : (i : Int) < n := by omega
      go_enter Try.func30, Try.ntmps30
      go_wp2_with (first | (go_at_call 85; ((with_reducible refine (cA _ (hl.below (by repeat (first | exact Below.refl _ _ | assumption | refine bExt ?_ _ | refine bAlloc ?_ _ | refine bDrewN ?_ _ | refine bDrew ?_ | refine bSet ?_ (by first | exact Nat.le_refl _ | omega | (simp; done) | (simp; omega)) _))) (hr.below (by repeat (first | exact Below.refl _ _ | assumption | refine bExt ?_ _ | refine bAlloc ?_ _ | refine bDrewN ?_ _ | refine bDrew ?_ | refine bSet ?_ (by first | exact Nat.le_refl _ | omega | (simp; done) | (simp; omega)) _)))).mono ?_); rintro e w' ⟨rfl, x, rfl⟩)) | (go_at_call 70; ((with_reducible refine (tiClock_any _ _).mono ?_); rintro e w' ⟨rfl, rfl⟩)) | (go_at_call 88; ((with_reducible refine (cL _ (hl.below (by repeat (first | exact Below.refl _ _ | assumption | refine bExt ?_ _ | refine bAlloc ?_ _ | refine bDrewN ?_ _ | refine bDrew ?_ | refine bSet ?_ (by first | exact Nat.le_refl _ | omega | (simp; done) | (simp; omega)) _))) (hr.below (by repeat (first | exact Below.refl _ _ | assumption | refine bExt ?_ _ | refine bAlloc ?_ _ | refine bDrewN ?_ _ | refine bDrew ?_ | refine bSet ?_ (by first | exact Nat.le_refl _ | omega | (simp; done) | (simp; omega)) _)))).mono ?_); rintro e w' ⟨rfl, x1, rfl⟩)))
      all_goals first | (go_ret2; exact retIntB_mk (by repeat (first | exact Below.refl _ _ | assumption | refine bExt ?_ _ | refine bAlloc ?_ _ | refine bDrewN ?_ _ | refine bDrew ?_ | refine bSet ?_ (by first | exact Nat.le_refl _ | omega | (simp; done) | (simp; omega)) _))) | (exfalso; simp_all)
set_option maxHeartbeats 2000000 in
theorem implLeaderAt_any (w : World) (L : Option Addr) (n cl : Nat) (l : List (Int × Int)) (a b c gap t : Int) (A : Option Addr) (m cs : Nat) (S : List Int) (hl : RdS w L n l) (hn : n ≤ 1099511627776) (hr : RdI w A m S) (hm : m ≤ 1099511627776) (hnc : n ≤ cl) :
    Calls Try.prog 29 #[.slice L n cl, .agg #[.int .i64 a, .int .i64 b, .int .i64 c, .int .i64 gap], .slice A m cs, .int .i64 t] w (RetIntB w (ldV l a b c gap S t) (ldB l a b c gap S t)) := by
  have cA := fun w' h1 h2 => areScored_any w' L n cl l a b c gap A m cs S h1 hn h2 hm hnc
  cases hk : boB l a b c gap S t
  · have hv : ldB l a b c gap S t = false := by simp [ldB, hk]
    have hv2 : ldV l a b c gap S t = 0 := by simp [ldV, hv]
    rw [hv, hv2]
    unfold boB at hk
    cases hsc : scB l a b c gap S
    · rw [hsc] at cA
      go_enter Try.func29, Try.ntmps29
      go_wp2_with (first | (go_at_call 83; ((with_reducible refine (cA _ (hl.below (by repeat (first | exact Below.refl _ _ | assumption | refine bExt ?_ _ | refine bAlloc ?_ _ | refine bDrewN ?_ _ | refine bDrew ?_ | refine bSet ?_ (by first | exact Nat.le_refl _ | omega | (simp; done) | (simp; omega)) _))) (hr.below (by repeat (first | exact Below.refl _ _ | assumption | refine bExt ?_ _ | refine bAlloc ?_ _ | refine bDrewN ?_ _ | refine bDrew ?_ | refine bSet ?_ (by first | exact Nat.le_refl _ | omega | (simp; done) | (simp; omega)) _)))).mono ?_); rintro e w' ⟨rfl, x, rfl⟩)) | (go_at_call 69; ((with_reducible refine (isDayTime_any _ _).mono ?_); rintro e w' ⟨rfl, rfl⟩)))
      all_goals first | (go_ret2; exact retIntB_mk (by repeat (first | exact Below.refl _ _ | assumption | refine bExt ?_ _ | refine bAlloc ?_ _ | refine bDrewN ?_ _ | refine bDrew ?_ | refine bSet ?_ (by first | exact Nat.le_refl _ | omega | (simp; done) | (simp; omega)) _))) | (exfalso; simp_all)
    · rw [hsc] at cA
      have hti : inB t 0 200000 = false := by simpa [hsc] using hk
      clear hk
      go_enter Try.func29, Try.ntmps29
      go_wp2_with (first | (go_at_call 83; ((with_reducible refine (cA _ (hl.below (by repeat (first | exact Below.refl _ _ | assumption | refine bExt ?_ _ | refine bAlloc ?_ _ | refine bDrewN ?_ _ | refine bDrew ?_ | refine bSet ?_ (by first | exact Nat.le_refl _ | omega | (simp; done) | (simp; omega)) _))) (hr.below (by repeat (first | exact Below.refl _ _ | assumption | refine bExt ?_ _ | refine bAlloc ?_ _ | refine bDrewN ?_ _ | refine bDrew ?_ | refine bSet ?_ (by first | exact Nat.le_refl _ | omega | (simp; done) | (simp; omega)) _)))).mono ?_); rintro e w' ⟨rfl, x, rfl⟩)) | (go_at_call 69; ((with_reducible refine (isDayTime_any _ _).mono ?_); rintro e w' ⟨rfl, rfl⟩)))
      all_goals first | (go_ret2; exact retIntB_mk (by repeat (first | exact Below.refl _ _ | assumption | refine bExt ?_ _ | refine bAlloc ?_ _ | refine bDrewN ?_ _ | refine bDrew ?_ | refine bSet ?_ (by first | exact Nat.le_refl _ | omega | (simp; done) | (simp; omega)) _))) | (exfalso; simp_all)
  · have hk' := hk
    simp only [boB, Bool.and_eq_true] at hk'
    obtain ⟨hsc, htt⟩ := hk'
    obtain rfl : n = m := by rw [← hr.len, (scB_of hsc).2.1, hl.len]
    have hsl := (timedB_of (scB_of hsc).1).1
    have cL := fun w' h1 h2 => leaderAt_any w' L n cl l a b c gap t A n cs S h1 hn h2 hsc
    have HTm := Lib.hid (fun x => bdT_mem (a := a) (b := b) (c := c) (gap := gap) (t := t) (S := S) hl.len (x := x))
    have hB : ldB l a b c gap S t = decide (0 < (bdT l a b c gap S t).length) := by simp [ldB, hk]
    have hV : ldV l a b c gap S t = ldS l (bdT l a b c gap S t) := by
      unfold ldV
      rw [hB]
      by_cases h : (bdT l a b c gap S t).length = 0
      · rw [h, ldS, if_pos h]; rfl
      · rw [if_pos (decide_eq_true (by omega))]
    rw [hB, hV]
    rw [hsc] at cA
    have Hl := Lib.hid hl.len
    clear hB hV hk
    generalize bdT l a b c gap S t = T at *
    by_cases h0 : T.length = 0
    · have hI : ldS l T = 0 := if_pos h0
      rw [hI, show decide (0 < T.length) = false by rw [h0]; rfl]
      rw [hI] at cL
      go_enter Try.func29, Try.ntmps29
      go_wp2_with (first | (go_at_call 83; ((with_reducible refine (cA _ (hl.below (by repeat (first | exact Below.refl _ _ | assumption | refine bExt ?_ _ | refine bAlloc ?_ _ | refine bDrewN ?_ _ | refine bDrew ?_ | refine bSet ?_ (by first | exact Nat.le_refl _ | omega | (simp; done) | (simp; omega)) _))) (hr.below (by repeat (first | exact Below.refl _ _ | assumption | refine bExt ?_ _ | refine bAlloc ?_ _ | refine bDrewN ?_ _ | refine bDrew ?_ | refine bSet ?_ (by first | exact Nat.le_refl _ | omega | (simp; done) | (simp; omega)) _)))).mono ?_); rintro e w' ⟨rfl, x, rfl⟩)) | (go_at_call 69; ((with_reducible refine (isDayTime_any _ _).mono ?_); rintro e w' ⟨rfl, rfl⟩)) | (go_at_call 87; ((with_reducible refine (cL _ (hl.below (by repeat (first | exact Below.refl _ _ | assumption | refine bExt ?_ _ | refine bAlloc ?_ _ | refine bDrewN ?_ _ | refine bDrew ?_ | refine bSet ?_ (by first | exact Nat.le_refl _ | omega | (simp; done) | (simp; omega)) _))) (hr.below (by repeat (first | exact Below.refl _ _ | assumption | refine bExt ?_ _ | refine bAlloc ?_ _ | refine bDrewN ?_ _ | refine bDrew ?_ | refine bSet ?_ (by first | exact Nat.le_refl _ | omega | (simp; done) | (simp; omega)) _)))).mono ?_); rintro e w' ⟨rfl, x1, rfl⟩)))
      all_goals first | (go_ret2; exact retIntB_mk (by repeat (first | exact Below.refl _ _ | assumption | refine bExt ?_ _ | refine bAlloc ?_ _ | refine bDrewN ?_ _ | refine bDrew ?_ | refine bSet ?_ (by first | exact Nat.le_refl _ | omega | (simp; done) | (simp; omega)) _))) | (exfalso; simp_all)
    · obtain ⟨i, hi, hie⟩ := HTm.out _ (getD_mem 0 T 0 (by omega))
      have hI : ldS l T = (l[i]?.getD (0, 0)).1 := by rw [ldS, if_neg h0, hie]; rfl
      rw [hI, show decide (0 < T.length) = true from decide_eq_true (by omega)]
      rw [hI] at cL
      clear hI hie
      have hps := slot_pos hsl i (by rw [Hl.out]; exact hi)
      generalize (l[i]?.getD (0, 0)).1 = v1 at *
      have hne : (v1 == 0) = false := by simp; omega
      go_enter Try.func29, Try.ntmps29
      go_wp2_with (first | (go_at_call 83; ((with_reducible refine (cA _ (hl.below (by repeat (first | exact Below.refl _ _ | assumption | refine bExt ?_ _ | refine bAlloc ?_ _ | refine bDrewN ?_ _ | refine bDrew ?_ | refine bSet ?_ (by first | exact Nat.le_refl _ | omega | (simp; done) | (simp; omega)) _))) (hr.below (by repeat (first | exact Below.refl _ _ | assumption | refine bExt ?_ _ | refine bAlloc ?_ _ | refine bDrewN ?_ _ | refine bDrew ?_ | refine bSet ?_ (by first | exact Nat.le_refl _ | omega | (simp; done) | (simp; omega)) _)))).mono ?_); rintro e w' ⟨rfl, x, rfl⟩)) | (go_at_call 69; ((with_reducible refine (isDayTime_any _ _).mono ?_); rintro e w' ⟨rfl, rfl⟩)) | (go_at_call 87; ((with_reducible refine (cL _ (hl.below (by repeat (first | exact Below.refl _ _ | assumption | refine bExt ?_ _ | refine bAlloc ?_ _ | refine bDrewN ?_ _ | refine bDrew ?_ | refine bSet ?_ (by first | exact Nat.le_refl _ | omega | (simp; done) | (simp; omega)) _))) (hr.below (by repeat (first | exact Below.refl _ _ | assumption | refine bExt ?_ _ | refine bAlloc ?_ _ | refine bDrewN ?_ _ | refine bDrew ?_ | refine bSet ?_ (by first | exact Nat.le_refl _ | omega | (simp; done) | (simp; omega)) _)))).mono ?_); rintro e w' ⟨rfl, x1, rfl⟩)))
      all_goals first | (go_ret2; exact retIntB_mk (by repeat (first | exact Below.refl _ _ | assumption | refine bExt ?_ _ | refine bAlloc ?_ _ | refine bDrewN ?_ _ | refine bDrew ?_ | refine bSet ?_ (by first | exact Nat.le_refl _ | omega | (simp; done) | (simp; omega)) _))) | (exfalso; simp_all)
end Go.Proofs.Ytogglhgagblihaa
