/- The program's board: the known programmes, ordered by their scores. Conditions: asked as the claim asks. -/
import Derived.Test.YtpjaiihkgeabiaaDoorStable8
import Derived.Test.YtpjaiihkgeabiaaDoorKnown
set_option linter.unusedVariables false
set_option linter.unusedSimpArgs false
set_option maxRecDepth 100000
namespace Go.Proofs.YtpjaiihkgeabiaaDoor
open Go.RowKit
def bKey (S : List Int) (i : Int) : Int := - (S[i.toNat]?.getD 0)
theorem pickI_mem {p : Nat → Bool} {n : Nat} : ∀ z ∈ pickI p n, ∃ i : Nat, i < n ∧ z = i := fun z hz => by
  simp only [pickI, List.mem_map, List.mem_filter, List.mem_range] at hz
  obtain ⟨i, ⟨hi, _⟩, rfl⟩ := hz
  exact ⟨i, hi, rfl⟩
end Go.Proofs.YtpjaiihkgeabiaaDoor
