/- Slices of slices of ints: what they read as, rows of rows that a call made, and the law file's functions on them. Conditions: lengths below 2^40. -/
import Derived.Test.YtmeaklaagglmeaaGreatDoorXLift
import Derived.Test.YtmeaklaagglmeaaGreatDoorXLawKit
import Derived.Test.YtmeaklaagglmeaaGreatDoorXInts
import Derived.Deep.Matrix
import Derived.Deep.RegionHeld3
set_option linter.unusedVariables false
set_option linter.unusedSimpArgs false
set_option maxRecDepth 100000
namespace Go.Proofs.YtmeaklaagglmeaaGreatDoor
open Go.ChangeShapes Go.WideShapes Go.ChangeAt Go.RowKit
def RdM (w : World) (A : Option Addr) (n : Nat) (ll : List (List Int)) : Prop :=
 ll.length = n ∧ (0 < n → ∃ b off, A = some ⟨b, off, none⟩ ∧ b < w.heap.size ∧ ∀ j, j < n → ∃ B m d, w.cell? ⟨b, off + j, none⟩ = some (.slice B m d) ∧ RdI w B m (ll[j]?.getD []) ∧ m ≤ d ∧ d ≤ maxLen)
theorem RdM.below {w w' : World} {A : Option Addr} {n : Nat} {ll : List (List Int)} (h : RdM w A n ll) (hb : Below w.heap.size w w') : RdM w' A n ll := by
 refine ⟨h.1, fun hn => ?_⟩
 obtain ⟨b, off, rfl, hlt, hc⟩ := h.2 hn
 refine ⟨b, off, rfl, Nat.lt_of_lt_of_le hlt hb.size, fun j hj => ?_⟩
 obtain ⟨B, m, d, h1, h2, h3⟩ := hc j hj
 exact ⟨B, m, d, (hb.cell (p := ⟨b, off + j, none⟩) hlt).trans h1, h2.below hb, h3⟩
theorem RdM.len {w : World} {A : Option Addr} {n : Nat} {ll : List (List Int)} (h : RdM w A n ll) : ll.length = n := h.1
section
variable {base n c : Nat} {w w' : World} {A : Option Addr} {ll : List (List Int)}
end
end Go.Proofs.YtmeaklaagglmeaaGreatDoor
