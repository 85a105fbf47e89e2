/- The reference's board: a stable insertion. Conditions: asked as the claim asks. -/
import Derived.Test.YtpjaiihkgeabiaaDoorBoard2
import Derived.Test.YtpjaiihkgeabiaaDoorSorts
set_option linter.unusedVariables false
set_option linter.unusedSimpArgs false
set_option maxRecDepth 100000
namespace Go.Proofs.YtpjaiihkgeabiaaDoor
open Go.RowKit
theorem bKey_lt {S : List Int} {i k : Nat} : (S[i]?.getD 0 < S[k]?.getD 0) ↔ bKey S k < bKey S i := by simp only [bKey, Int.toNat_natCast]; omega
theorem grown_cell {w w' : World} {row : Option Nat} (h : w.grownBy w' row) {b o : Nat} (hb : b < w.heap.size) (hne : some b ≠ row) : w'.cell? ⟨b, o, none⟩ = w.cell? ⟨b, o, none⟩ := by
  have := h.block b hb hne
  unfold World.cell?
  rw [this]
theorem bKey_at {S : List Int} {i : Nat} : bKey S i = - (S[i]?.getD 0) := by simp only [bKey, Int.toNat_natCast]
end Go.Proofs.YtpjaiihkgeabiaaDoor
