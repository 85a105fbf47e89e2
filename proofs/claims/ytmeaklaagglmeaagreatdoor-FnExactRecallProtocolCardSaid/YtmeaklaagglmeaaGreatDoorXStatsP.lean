/- Plain facts on series of ints: sums, fractions in lowest terms, drifts. Conditions: none. -/
import Derived.Test.YtmeaklaagglmeaaGreatDoorXPlain
import Derived.Test.YtmeaklaagglmeaaGreatDoorXInts
set_option linter.unusedVariables false
set_option linter.unusedSimpArgs false
set_option maxRecDepth 100000
namespace Go.Proofs.YtmeaklaagglmeaaGreatDoor
def sumTo (l : List Int) (k : Nat) : Int := (l.take k).sum
theorem sumTo_succ (l : List Int) (k : Nat) (h : k < l.length) : sumTo l (k + 1) = sumTo l k + l[k]?.getD 0 := by
 unfold sumTo; rw [take_succ_getD 0 l k h]; simp
theorem sumTo_bd {l : List Int} {c : Int} (hc : 0 ≤ c) (hb : ∀ x ∈ l, -c ≤ x ∧ x ≤ c) (k : Nat) : -(c * k) ≤ sumTo l k ∧ sumTo l k ≤ c * k := by
 induction k with
 | zero => simp [sumTo]
 | succ k ih =>
  by_cases h : k < l.length
  ·
   rw [sumTo_succ l k h]
   have := hb _ (getD_mem 0 l k h)
   have e : c * ((k + 1 : Nat) : Int) = c * k + c := by push_cast; rw [Int.mul_add, Int.mul_one]
   rw [e]; omega
  ·
   have e1 : sumTo l (k + 1) = sumTo l k := by unfold sumTo; rw [List.take_of_length_le (by omega), List.take_of_length_le (by omega)]
   have e : c * ((k + 1 : Nat) : Int) = c * k + c := by push_cast; rw [Int.mul_add, Int.mul_one]
   rw [e1, e]; omega
theorem mul_bd {a b A B : Int} (h1 : -A ≤ a) (h2 : a ≤ A) (h3 : 0 ≤ b) (h4 : b ≤ B) : -(A * B) ≤ a * b ∧ a * b ≤ A * B := by
 have hA : 0 ≤ A := by omega
 have e1 : a * b ≤ A * b := Int.mul_le_mul_of_nonneg_right h2 h3
 have e2 : A * b ≤ A * B := Int.mul_le_mul_of_nonneg_left h4 hA
 have e3 : -A * b ≤ a * b := Int.mul_le_mul_of_nonneg_right h1 h3
 have e4 : -A * b = -(A * b) := Int.neg_mul _ _
 omega
end Go.Proofs.YtmeaklaagglmeaaGreatDoor
