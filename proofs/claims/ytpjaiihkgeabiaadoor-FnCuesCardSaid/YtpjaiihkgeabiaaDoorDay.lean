/- Contracts of the functions on days (IsDay, in the program and in the reference), and of MusicSlip. Conditions: none. -/
import Derived.Test.YtpjaiihkgeabiaaDoorL1
set_option linter.unusedVariables false
set_option linter.unusedSimpArgs false
set_option maxRecDepth 100000
namespace Go.Proofs.YtpjaiihkgeabiaaDoor
open Go.RowKit
def dayB (a b c d : Int) : Bool := inB a 0 86400 && inB b 1 8 && inB c 0 600 && inB d 0 300
theorem isGroupSize_any (a : Int) (w : World) :
    Calls Tryd.prog 115 #[.int .i64 a] w fun e w' => e = .returned (.bool (inB a 1 8)) ∧ w = w' := by
  go_enter Tryd.func115, Tryd.ntmps115
  go_wp2_with (go_at_call 80; ((with_reducible refine (within_any _ _ _ _).mono ?_); rintro e w' ⟨rfl, rfl⟩))
  go_ret
  exact ⟨rfl, rfl⟩
theorem tiDay_any (a b c d : Int) (w : World) :
    Calls Tryd.prog 104 #[.agg #[.int .i64 a, .int .i64 b, .int .i64 c, .int .i64 d]] w fun e w' => e = .returned (.bool (dayB a b c d)) ∧ ∃ x, w' = ext w x := by
  unfold dayB
  go_enter Tryd.func104, Tryd.ntmps104
  go_wp2_with (go_at_call 84; ((with_reducible refine (l1In_any _ _ _ _).mono ?_); rintro e w' ⟨rfl, rfl⟩))
  all_goals go_ret
  all_goals exact ⟨by simp [*], ext_ex (by repeat (first | exact Below.refl _ _ | assumption | refine bExt ?_ _ | refine bAlloc ?_ _ | refine bDrewN ?_ _ | refine bDrew ?_ | refine bSet ?_ (by first | exact Nat.le_refl _ | omega | (simp; done) | (simp; omega)) _))⟩
theorem implIsDay_any (a b c d : Int) (w : World) :
    Calls Tryd.prog 99 #[.agg #[.int .i64 a, .int .i64 b, .int .i64 c, .int .i64 d]] w fun e w' => e = .returned (.bool (dayB a b c d)) ∧ ∃ x, w' = ext w x := by
  unfold dayB
  go_enter Tryd.func99, Tryd.ntmps99
  go_wp2_with (first | (go_at_call 80; ((with_reducible refine (within_any _ _ _ _).mono ?_); rintro e w' ⟨rfl, rfl⟩)) | (go_at_call 115; ((with_reducible refine (isGroupSize_any _ _).mono ?_); rintro e w' ⟨rfl, rfl⟩)))
  all_goals go_ret
  all_goals exact ⟨by simp [*], ext_ex (by repeat (first | exact Below.refl _ _ | assumption | refine bExt ?_ _ | refine bAlloc ?_ _ | refine bDrewN ?_ _ | refine bDrew ?_ | refine bSet ?_ (by first | exact Nat.le_refl _ | omega | (simp; done) | (simp; omega)) _))⟩
end Go.Proofs.YtpjaiihkgeabiaaDoor
