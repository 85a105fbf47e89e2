/- The library's SortStableFunc of ints, and the closure that orders a board. Conditions: lengths below 2^40. -/
import Derived.Test.YtpjaiihkgeabiaaDoorStable7
set_option linter.unusedVariables false
set_option linter.unusedSimpArgs false
set_option maxRecDepth 100000
namespace Go.Proofs.YtpjaiihkgeabiaaDoor
open Go.RowKit
end Go.Proofs.YtpjaiihkgeabiaaDoor
