/- The program's board: the walk of boardAt. Conditions: asked as the claim asks. -/
import Derived.Test.YtpjaiihkgeabiaaDoorBoard
set_option linter.unusedVariables false
set_option linter.unusedSimpArgs false
set_option maxRecDepth 100000
namespace Go.Proofs.YtpjaiihkgeabiaaDoor
open Go.RowKit
def RetBd (w : World) (S L : List Int) (e : Ending) (w' : World) : Prop := ∃ T, Srt (bKey S) T ∧ SF (bKey S) T L ∧ RetI w T e w'
end Go.Proofs.YtpjaiihkgeabiaaDoor
