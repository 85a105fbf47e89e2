/- Contracts of the smallest functions of the program and of the reference (numbers, tests on lists of numbers). Conditions: none on numbers that are only compared; lengths below 2^40. -/
import Derived.Test.YtpjaiihkgeabiaaDoorOwn
import Derived.Test.YtpjaiihkgeabiaaDoorPlain
set_option linter.unusedVariables false
set_option linter.unusedSimpArgs false
set_option maxRecDepth 100000
namespace Go.Proofs.YtpjaiihkgeabiaaDoor
open Go.RowKit

def inB (a lo hi : Int) : Bool := decide (lo ≤ a) && decide (a ≤ hi)
theorem inB_iff {a lo hi : Int} : inB a lo hi = true ↔ lo ≤ a ∧ a ≤ hi := by simp [inB]
theorem inB_not {a lo hi : Int} : inB a lo hi = false ↔ ¬ (lo ≤ a ∧ a ≤ hi) := by rw [← inB_iff]; simp
set_option maxHeartbeats 400000 in
theorem l1In_any (a lo hi : Int) (w : World) :
    Calls Tryd.prog 84 #[.int .i64 a, .int .i64 lo, .int .i64 hi] w fun e w' => e = .returned (.bool (inB a lo hi)) ∧ w = w' := by
  unfold inB
  by_cases h1 : lo ≤ a <;> by_cases h2 : a ≤ hi
  all_goals
    go_enter Tryd.func84, Tryd.ntmps84
    go_wp2
    go_ret
    simp [h1, h2]
set_option maxHeartbeats 400000 in
theorem within_any (a lo hi : Int) (w : World) :
    Calls Tryd.prog 80 #[.int .i64 a, .int .i64 lo, .int .i64 hi] w fun e w' => e = .returned (.bool (inB a lo hi)) ∧ w = w' := by
  unfold inB
  by_cases h1 : lo ≤ a <;> by_cases h2 : a ≤ hi
  all_goals
    go_enter Tryd.func80, Tryd.ntmps80
    go_wp2
    go_ret
    simp [h1, h2]
theorem l1Most_any (a b : Int) (w : World) :
    Calls Tryd.prog 110 #[.int .i64 a, .int .i64 b] w fun e w' => e = .returned (.int .i64 (max a b)) ∧ w = w' := by
  by_cases h1 : b < a
  all_goals
    go_enter Tryd.func110, Tryd.ntmps110
    go_wp2
    go_ret
    exact ⟨congrArg (fun z => Ending.returned (.int .i64 z)) (by omega), rfl⟩
theorem l1Least_any (a b : Int) (w : World) :
    Calls Tryd.prog 109 #[.int .i64 a, .int .i64 b] w fun e w' => e = .returned (.int .i64 (min a b)) ∧ w = w' := by
  by_cases h1 : a < b
  all_goals
    go_enter Tryd.func109, Tryd.ntmps109
    go_wp2
    go_ret
    exact ⟨congrArg (fun z => Ending.returned (.int .i64 z)) (by omega), rfl⟩
def hasB (l : List Int) (x : Int) : Bool := l.any (· == x)
theorem hasB_iff {l : List Int} {x : Int} : hasB l x = true ↔ x ∈ l := by simp [hasB]
set_option maxHeartbeats 400000 in
theorem l1Has_any (w : World) (A : Option Addr) (n c : Nat) (l : List Int) (x : Int) (ha : RdI w A n l) (hn : n ≤ 1099511627776) :
    Calls Tryd.prog 117 #[.slice A n c, .int .i64 x] w fun e w' => e = .returned (.bool (hasB l x)) ∧ w = w' := by
  have Hl := Lib.hid ha.len
  unfold hasB
  go_enter Tryd.func117, Tryd.ntmps117
  go_wp2
  go_loop [6, 9] (fun _ i => ∃ k : Nat, k ≤ n ∧ i = .int .i64 k ∧ Hid ((l.take k).any (· == x) = false)) (fun _ i => n - (intOf i).toNat)
  case atStart => exact ⟨0, by omega, rfl, rfl⟩
  case round =>
    obtain ⟨k, hk, rfl, HT⟩ := hrel
    by_cases hlt : k < n
    · obtain ⟨b, off, rfl, hb, hc⟩ := ha.open_ (by omega)
      go_wp2
      · go_ret
        exact ⟨ret_bool (any_hit 0 (by rw [Hl.out]; exact hlt) ‹_›).symm, rfl⟩
      · go_round
        case rel => exact ⟨k + 1, by omega, by go_num, any_step 0 (by rw [Hl.out]; exact hlt) HT.out ‹_›⟩
        case measure => simp [intOf]; omega
    · go_wp2
      go_ret
      exact ⟨ret_bool (any_end HT.out (by rw [Hl.out]; omega)).symm, rfl⟩
end Go.Proofs.YtpjaiihkgeabiaaDoor
