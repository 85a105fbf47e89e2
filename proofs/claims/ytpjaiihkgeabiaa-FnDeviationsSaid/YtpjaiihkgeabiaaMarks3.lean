/- Equality and marking of slices of slices of ints and of Marks in the law file; opening of such arguments. Conditions: lengths below 2^40. -/
import Derived.Test.YtpjaiihkgeabiaaMarks2
set_option linter.unusedVariables false
set_option linter.unusedSimpArgs false
set_option maxRecDepth 100000
namespace Go.Proofs.Ytpjaiihkgeabiaa
open Go.ChangeShapes Go.WideShapes Go.ChangeAt Go.RowKit
theorem gSetM (w : World) (g k : Nat) (v : Value) : w.grownBy (w.setCell ⟨g, k, none⟩ v) (some g) :=
  ⟨rfl, rfl, rfl, by simp [World.setCell], fun j _ hne => Below.heap_setCell w ⟨g, k, none⟩ v j (fun e => hne (by rw [e]))⟩
/-- OwM with all its blocks in [base, hi). -/
def OwMB (base hi : Nat) (w : World) (A : Option Addr) (n c : Nat) (ll : List (List Int)) : Prop :=
  ll.length = n ∧ ∃ (B : Nat → Option Addr) (m d : Nat → Nat), (Ow 30 1 base w A n c ((List.range n).map fun j => .slice (B j) (m j) (d j)) ∧
    (∀ j, j < n → OwI base w (B j) (m j) (d j) (ll[j]?.getD []) ∧ (blkOf (B j) = none ∨ blkOf (B j) ≠ blkOf A)) ∧ ∀ i j, i < n → j < n → i ≠ j → (blkOf (B i) = none ∨ blkOf (B i) ≠ blkOf (B j))) ∧
    (∀ z, blkOf A = some z → z < hi) ∧ ∀ j, j < n → ∀ z, blkOf (B j) = some z → z < hi
section
variable {base hi n c : Nat} {w w' : World} {A : Option Addr} {ll : List (List Int)}
theorem OwMB.toM (h : OwMB base hi w A n c ll) : OwM base w A n c ll := by obtain ⟨h1, B, m, d, h2, _⟩ := h; exact ⟨h1, B, m, d, h2⟩
theorem OwM.toB (h : OwM base w A n c ll) : OwMB base w.heap.size w A n c ll := by
  obtain ⟨h1, B, m, d, h2, h3, h4⟩ := h
  exact ⟨h1, B, m, d, ⟨h2, h3, h4⟩, fun z hz => (h2.blk hz).2, fun j hj z hz => ((h3 j hj).1.blk hz).2⟩
theorem OwMB.below (h : OwMB base hi w A n c ll) (hb : Below w.heap.size w w') : OwMB base hi w' A n c ll := by
  obtain ⟨h1, B, m, d, ⟨h2, h3, h4⟩, h5⟩ := h
  exact ⟨h1, B, m, d, ⟨h2.below hb, fun j hj => ⟨(h3 j hj).1.below hb, (h3 j hj).2⟩, h4⟩, h5⟩
theorem OwMB.mono {base' hi' : Nat} (h : OwMB base hi w A n c ll) (h1 : base' ≤ base) (h2 : hi ≤ hi') : OwMB base' hi' w A n c ll := by
  obtain ⟨g1, B, m, d, ⟨g2, g3, g4⟩, g5, g6⟩ := h
  exact ⟨g1, B, m, d, ⟨g2.mono h1, fun j hj => ⟨(g3 j hj).1.mono h1, (g3 j hj).2⟩, g4⟩, fun z hz => Nat.lt_of_lt_of_le (g5 z hz) h2, fun j hj z hz => Nat.lt_of_lt_of_le (g6 j hj z hz) h2⟩
/-- A write elsewhere leaves it. -/
theorem OwMB.kept {g : Nat} (h : OwMB base hi w A n c ll) (hg : w.grownBy w' (some g)) (hne : g < base ∨ hi ≤ g) : OwMB base hi w' A n c ll := by
  obtain ⟨g1, B, m, d, ⟨g2, g3, g4⟩, g5, g6⟩ := h
  have hA : blkOf A = none ∨ blkOf A ≠ some g := by
    cases hB : blkOf A with
    | none => exact .inl rfl
    | some z => exact .inr fun hh => by cases hh; have := (g2.blk hB).1; have := g5 _ hB; omega
  have hR : ∀ j, j < n → blkOf (B j) = none ∨ blkOf (B j) ≠ some g := fun j hj => by
    cases hB : blkOf (B j) with
    | none => exact .inl rfl
    | some z => exact .inr fun hh => by cases hh; have := ((g3 j hj).1.blk hB).1; have := g6 j hj _ hB; omega
  exact ⟨g1, B, m, d, ⟨g2.kept hg hA, fun j hj => ⟨(g3 j hj).1.kept hg (hR j hj), (g3 j hj).2⟩, g4⟩, g5, g6⟩
theorem OwMB.set {g k : Nat} {v : Value} (h : OwMB base hi w A n c ll) (hne : g < base ∨ hi ≤ g) : OwMB base hi (w.setCell ⟨g, k, none⟩ v) A n c ll := h.kept (gSetM w g k v) hne
end
/-- What toMarks hands back: two tables of the call's own, the second's blocks behind the first's. -/
def RetMarks (w : World) (gg kk : List (List Int)) (e : Ending) (w' : World) : Prop := ∃ A n c B m d x mid, e = .returned (.agg #[.slice A n c, .slice B m d]) ∧ w' = ext w x ∧ OwMB w.heap.size mid (ext w x) A n c gg ∧ OwMB mid (ext w x).heap.size (ext w x) B m d kk ∧ w.heap.size ≤ mid
end Go.Proofs.Ytpjaiihkgeabiaa
