/- slices.Contains of ints in my words. Conditions: lengths below 2^40. -/
import Derived.Test.YtogglhgagblihaaShelf
import Derived.Test.YtogglhgagblihaaZBase
set_option linter.unusedVariables false
set_option linter.unusedSimpArgs false
set_option maxRecDepth 100000
namespace Go.Proofs.Ytogglhgagblihaa
open Go.RowKit
theorem containsInts_any (w : World) (A : Option Addr) (n c : Nat) (l : List Int) (x : Int) (ha : RdI w A n l) (hn : n ≤ 1099511627776) :
    Calls Try.prog 90 #[.slice A n c, .int .i64 x] w fun e w' => e = .returned (.bool (hasB l x)) ∧ w = w' := by
  have hl := ha.len
  have e : hasB l x = l.contains x := by unfold hasB; rw [List.contains_eq_any_beq]; congr 1; funext y; exact Bool.beq_comm
  rw [e]
  by_cases h0 : 0 < n
  · obtain ⟨b, off, rfl, hb, hc⟩ := ha.open_ h0
    refine (Try.slices_Contains_int b off n c l x w (by omega) (by omega) (fun j hj => hc j (by omega))).mono fun e w' h => ?_
    rw [List.take_of_length_le (by omega)] at h
    exact ⟨h.1, h.2.symm⟩
  · obtain rfl : n = 0 := by omega
    have hl0 : l = [] := List.eq_nil_of_length_eq_zero hl
    subst hl0
    refine (Try.slices_Contains_int_empty A c x w).mono fun e w' h => ?_
    exact ⟨h.1, h.2.symm⟩
end Go.Proofs.Ytogglhgagblihaa
