/- Small lemmas for the walks of the laws: bounds of rows of the call's own, and that rows made by different calls lie apart. Conditions: none. -/
import Derived.Test.YtfmidngndddfiaaGreatDoorL1
import Derived.Test.YtfmidngndddfiaaGreatDoorLift
set_option linter.unusedVariables false
set_option linter.unusedSimpArgs false
set_option maxRecDepth 100000
namespace Go.Proofs.YtfmidngndddfiaaGreatDoor
open Go.RowKit
theorem base_le {R W : World} (h : Below R.heap.size R W) : R.heap.size ≤ W.heap.size := h.size
theorem OwI.cap_ {base n c : Nat} {w : World} {A : Option Addr} {l : List Int} (h : OwI base w A n c l) : n ≤ c ∧ c ≤ maxLen := Ow.cap_ h
theorem bdI {base n c : Nat} {w : World} {A : Option Addr} {l : List Int} (h : OwI base w A n c l) (hl : l.length ≤ 1048576) : n ≤ 1099511627776 := by have := h.len; omega
section
variable {e s base n c e' s' n' c' : Nat} {W W' : World} {A B : Option Addr} {xs ys : List Value}
theorem ne_before (hY : Ow e s base W A n c xs) (hX : Ow e' s' W.heap.size W' B n' c' ys) : blkOf A = none ∨ blkOf A ≠ blkOf B := by
  cases hA : blkOf A with
  | none => exact .inl rfl
  | some g =>
    refine .inr fun h => ?_
    have h1 := (hY.blk hA).2
    have h2 := (hX.blk h.symm).1
    omega
theorem ne_after (hX : Ow e s base W A n c xs) (hY : Ow e' s' W.heap.size W' B n' c' ys) : blkOf B = none ∨ blkOf B ≠ blkOf A := by
  cases hB : blkOf B with
  | none => exact .inl rfl
  | some g =>
    refine .inr fun h => ?_
    have h1 := (hX.blk h.symm).2
    have h2 := (hY.blk hB).1
    omega
end
end Go.Proofs.YtfmidngndddfiaaGreatDoor
