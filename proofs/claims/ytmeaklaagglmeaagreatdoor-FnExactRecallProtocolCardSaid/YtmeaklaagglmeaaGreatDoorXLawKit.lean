/- Small lemmas for the walks of the laws: bounds of rows of the call's own, and that rows made by different calls lie apart. Conditions: none. -/
import Derived.Test.YtmeaklaagglmeaaGreatDoorXL1
import Derived.Test.YtmeaklaagglmeaaGreatDoorXLift
set_option linter.unusedVariables false
set_option linter.unusedSimpArgs false
set_option maxRecDepth 100000
namespace Go.Proofs.YtmeaklaagglmeaaGreatDoor
open Go.RowKit
theorem OwI.cap_ {base n c : Nat} {w : World} {A : Option Addr} {l : List Int} (h : OwI base w A n c l) : n ≤ c ∧ c ≤ maxLen := Ow.cap_ h
section
variable {e s base n c e' s' n' c' : Nat} {W W' : World} {A B : Option Addr} {xs ys : List Value}
end
end Go.Proofs.YtmeaklaagglmeaaGreatDoor
