/- A slice of strings that came in, opened. Conditions: none. -/
import Derived.Test.YtmeaklaagglmeaaGreatDoorXLift
import Derived.Test.YtmeaklaagglmeaaGreatDoorXStrs
import Derived.SliceStrings
set_option linter.unusedVariables false
set_option linter.unusedSimpArgs false
set_option maxRecDepth 100000
namespace Go.Proofs.YtmeaklaagglmeaaGreatDoor
open Go.ChangeShapes Go.WideShapes Go.ChangeAt Go.RowKit
end Go.Proofs.YtmeaklaagglmeaaGreatDoor
