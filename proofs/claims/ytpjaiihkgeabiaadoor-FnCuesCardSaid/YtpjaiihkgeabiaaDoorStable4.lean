/- The library's symMerge of ints in general. Conditions: lengths below 2^40. -/
import Derived.Test.YtpjaiihkgeabiaaDoorStable3
set_option linter.unusedVariables false
set_option linter.unusedSimpArgs false
set_option maxRecDepth 100000
namespace Go.Proofs.YtpjaiihkgeabiaaDoor
open Go.RowKit
end Go.Proofs.YtpjaiihkgeabiaaDoor
