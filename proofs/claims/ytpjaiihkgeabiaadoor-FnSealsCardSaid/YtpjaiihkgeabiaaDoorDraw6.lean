/- What the reference draws for the laws on times. Conditions: none. -/
import Derived.Test.YtpjaiihkgeabiaaDoorDraw5
set_option linter.unusedVariables false
set_option linter.unusedSimpArgs false
set_option maxRecDepth 100000
namespace Go.Proofs.YtpjaiihkgeabiaaDoor
open Go.RowKit
def RetII (w : World) (e : Ending) (w' : World) : Prop := ∃ (i j : Int) (x : World), e = .returned (.tuple #[.int .i64 i, .int .i64 j]) ∧ w' = ext w x
end Go.Proofs.YtpjaiihkgeabiaaDoor
