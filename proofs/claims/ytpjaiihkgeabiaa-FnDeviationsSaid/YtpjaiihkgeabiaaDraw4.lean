/- The reference's drawn series. Conditions: fewer than 2^39 choices, inputs below 2^40 bytes. -/
import Derived.Test.YtpjaiihkgeabiaaDraw3
set_option linter.unusedVariables false
set_option linter.unusedSimpArgs false
set_option maxRecDepth 100000
namespace Go.Proofs.Ytpjaiihkgeabiaa
open Go.RowKit
/-- The row is nil, or its block is not below w. -/
def Nw (w : World) (D : Option Addr) : Prop := ∀ b, blkOf D = some b → w.heap.size ≤ b
theorem Nw.nil_ {w : World} : Nw w none := fun b h => by cases h
theorem Nw.push {w W : World} {D D' : Option Addr} (h : Nw w D) (hW : w.heap.size ≤ W.heap.size) (hd : blkOf D' = blkOf D ∨ ∃ g, blkOf D' = some g ∧ W.heap.size < g) : Nw w D' := fun b hb => by
  rcases hd with hd | ⟨g, hd, hlt⟩
  · exact h b (by rw [← hd]; exact hb)
  · rw [hd] at hb; injection hb with hb; omega
theorem Nw.ne {w : World} {D : Option Addr} {g : Nat} (h : Nw w D) (hg : g < w.heap.size) : blkOf D = none ∨ blkOf D ≠ some g := by
  cases hD : blkOf D with
  | none => exact .inl rfl
  | some b => exact .inr (fun e => by injection e with e; have := h b hD; omega)
theorem Nw.ne' {w : World} {D : Option Addr} {g : Nat} (h : Nw w D) (hg : g < w.heap.size) : blkOf D ≠ some g := fun e => by have := h g e; omega
/-- Writes to a row that is new since w are no writes to w. -/
theorem grown_new {w W W' : World} {row : Option Nat} {D : Option Addr} (h : w.grownBy W row) (hg : W.grownBy W' (blkOf D)) (hD : Nw w D) : w.grownBy W' row := by
  refine ⟨hg.os.trans h.os, hg.tape.trans h.tape, hg.output.trans h.output, Nat.le_trans h.size hg.size, fun k hk hne => ?_⟩
  rw [hg.block k (Nat.lt_of_lt_of_le hk h.size) (fun e => by have := hD k e.symm; omega)]
  exact h.block k hk hne
theorem int_lit {w : World} (l : List Int) (hl : l.length ≤ maxLen) (cs : Array Value) (hcs : cs.toList = l.map (Value.int .i64)) : RdI (w.alloc (.cells cs 3)) (some ⟨w.heap.size, 0, none⟩) l.length l := (OwI.lit_ (Below.refl _ w) l hl cs hcs).rd
end Go.Proofs.Ytpjaiihkgeabiaa
