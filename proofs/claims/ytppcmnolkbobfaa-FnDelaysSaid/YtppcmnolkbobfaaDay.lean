/- Contracts of the functions on days (IsDay, in the program and in the reference), and of MusicSlip. Conditions: none. -/
import Derived.Test.YtppcmnolkbobfaaL1
set_option linter.unusedVariables false
set_option linter.unusedSimpArgs false
set_option maxRecDepth 100000
namespace Go.Proofs.Ytppcmnolkbobfaa
open Go.RowKit
def dayB (a b c d : Int) : Bool := inB a 0 86400 && inB b 1 8 && inB c 0 600 && inB d 0 300
theorem isGroupSize_any (a : Int) (w : World) :
    Calls Try.prog 132 #[.int .i64 a] w fun e w' => e = .returned (.bool (inB a 1 8)) ∧ w = w' := by
  go_enter Try.func132, Try.ntmps132
  go_wp2_with (go_at_call 95; ((with_reducible refine (within_any _ _ _ _).mono ?_); rintro e w' ⟨rfl, rfl⟩))
  go_ret
  exact ⟨rfl, rfl⟩
theorem tiDay_any (a b c d : Int) (w : World) :
    Calls Try.prog 139 #[.agg #[.int .i64 a, .int .i64 b, .int .i64 c, .int .i64 d]] w fun e w' => e = .returned (.bool (dayB a b c d)) ∧ ∃ x, w' = ext w x := by
  unfold dayB
  go_enter Try.func139, Try.ntmps139
  go_wp2_with (go_at_call 98; ((with_reducible refine (l1In_any _ _ _ _).mono ?_); rintro e w' ⟨rfl, rfl⟩))
  all_goals go_ret
  all_goals exact ⟨by simp [*], ext_ex (by repeat (first | exact Below.refl _ _ | assumption | refine bExt ?_ _ | refine bAlloc ?_ _ | refine bDrewN ?_ _ | refine bDrew ?_ | refine bSet ?_ (by first | exact Nat.le_refl _ | omega | (simp; done) | (simp; omega)) _))⟩
theorem specIsDay_any (a b c d : Int) (w : World) :
    Calls Try.prog 56 #[.agg #[.int .i64 a, .int .i64 b, .int .i64 c, .int .i64 d]] w fun e w' => e = .returned (.bool (dayB a b c d)) ∧ ∃ x, w' = ext w x := by
  go_enter Try.func56, Try.ntmps56
  go_wp2_with (go_at_call 139; ((with_reducible refine (tiDay_any _ _ _ _ _).mono ?_); rintro e w' ⟨rfl, x, rfl⟩))
  all_goals go_ret
  all_goals exact ⟨rfl, ext_ex (by repeat (first | exact Below.refl _ _ | assumption | refine bExt ?_ _ | refine bAlloc ?_ _ | refine bDrewN ?_ _ | refine bDrew ?_ | refine bSet ?_ (by first | exact Nat.le_refl _ | omega | (simp; done) | (simp; omega)) _))⟩
theorem implIsDay_any (a b c d : Int) (w : World) :
    Calls Try.prog 55 #[.agg #[.int .i64 a, .int .i64 b, .int .i64 c, .int .i64 d]] w fun e w' => e = .returned (.bool (dayB a b c d)) ∧ ∃ x, w' = ext w x := by
  unfold dayB
  go_enter Try.func55, Try.ntmps55
  go_wp2_with (first | (go_at_call 95; ((with_reducible refine (within_any _ _ _ _).mono ?_); rintro e w' ⟨rfl, rfl⟩)) | (go_at_call 132; ((with_reducible refine (isGroupSize_any _ _).mono ?_); rintro e w' ⟨rfl, rfl⟩)))
  all_goals go_ret
  all_goals exact ⟨by simp [*], ext_ex (by repeat (first | exact Below.refl _ _ | assumption | refine bExt ?_ _ | refine bAlloc ?_ _ | refine bDrewN ?_ _ | refine bDrew ?_ | refine bSet ?_ (by first | exact Nat.le_refl _ | omega | (simp; done) | (simp; omega)) _))⟩
def slipV (a b c : Int) : Int := max 0 (absI (a - b) - c)
def slipOk (a b c : Int) : Bool := inB a 1 600 && inB b 1 600 && inB c 0 60
set_option maxHeartbeats 400000 in
theorem specMusicSlip_any (a b c : Int) (w : World) :
    Calls Try.prog 65 #[.int .i64 a, .int .i64 b, .int .i64 c] w fun e w' => e = .returned (.tuple #[.int .i64 (if slipOk a b c then slipV a b c else 0), .bool (slipOk a b c)]) ∧ w = w' := by
  by_cases h : slipOk a b c = true
  · have h' := h
    simp only [slipOk, Bool.and_eq_true] at h'
    obtain ⟨⟨h1, h2⟩, h3⟩ := h'
    have k1 := inB_iff.1 h1
    have k2 := inB_iff.1 h2
    have k3 := inB_iff.1 h3
    have k4 : -1000 ≤ absI (a - b) ∧ absI (a - b) ≤ 1000 := by unfold absI; omega
    rw [h]
    go_enter Try.func65, Try.ntmps65
    go_wp2_with (first | (go_at_call 98; ((with_reducible refine (l1In_any _ _ _ _).mono ?_); rintro e w' ⟨rfl, rfl⟩)) | (go_at_call 141; ((with_reducible refine (l1Abs_any _ _ (by omega) (by omega)).mono ?_); rintro e w' ⟨rfl, rfl⟩)) | (go_at_call 100; ((with_reducible refine (l1Most_any _ _ _).mono ?_); rintro e w' ⟨rfl, rfl⟩)))
    go_ret2
    exact ⟨rfl, rfl⟩
  · have h' : slipOk a b c = false := by simpa using h
    rw [h']
    simp only [slipOk, Bool.and_eq_false_iff] at h'
    go_enter Try.func65, Try.ntmps65
    go_wp2_with (first | (go_at_call 98; ((with_reducible refine (l1In_any _ _ _ _).mono ?_); rintro e w' ⟨rfl, rfl⟩)))
    all_goals first | (go_ret2; exact ⟨rfl, rfl⟩) | (exfalso; simp_all)
set_option maxHeartbeats 400000 in
theorem implMusicSlip_any (a b c : Int) (w : World) :
    Calls Try.prog 64 #[.int .i64 a, .int .i64 b, .int .i64 c] w fun e w' => e = .returned (.tuple #[.int .i64 (if slipOk a b c then slipV a b c else 0), .bool (slipOk a b c)]) ∧ w = w' := by
  by_cases h : slipOk a b c = true
  · have h' := h
    simp only [slipOk, Bool.and_eq_true] at h'
    obtain ⟨⟨h1, h2⟩, h3⟩ := h'
    have k1 := inB_iff.1 h1
    have k2 := inB_iff.1 h2
    have k3 := inB_iff.1 h3
    rw [h]
    go_enter Try.func64, Try.ntmps64
    go_wp2_with (first | (go_at_call 95; ((with_reducible refine (within_any _ _ _ _).mono ?_); rintro e w' ⟨rfl, rfl⟩)))
    all_goals
      go_ret2
      refine ⟨congrArg (fun z => Ending.returned (.tuple #[.int .i64 z, .bool true])) ?_, rfl⟩
      unfold slipV absI
      omega
  · have h' : slipOk a b c = false := by simpa using h
    rw [h']
    simp only [slipOk, Bool.and_eq_false_iff] at h'
    go_enter Try.func64, Try.ntmps64
    go_wp2_with (first | (go_at_call 95; ((with_reducible refine (within_any _ _ _ _).mono ?_); rintro e w' ⟨rfl, rfl⟩)))
    all_goals first | (go_ret2; exact ⟨rfl, rfl⟩) | (exfalso; simp_all)
end Go.Proofs.Ytppcmnolkbobfaa
