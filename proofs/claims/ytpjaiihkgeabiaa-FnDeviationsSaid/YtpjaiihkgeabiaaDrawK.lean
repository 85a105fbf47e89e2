/- The cursor's bundle kept under writes to other blocks, and a choice among a list just laid (where no slots are drawn; elsewhere Draw10 has them). Conditions: none. -/
import Derived.Test.YtpjaiihkgeabiaaDraw5
set_option linter.unusedVariables false
set_option linter.unusedSimpArgs false
set_option maxRecDepth 100000
namespace Go.Proofs.Ytpjaiihkgeabiaa
open Go.RowKit
theorem blk4 {w : World} {g ty : Nat} {x0 x1 x2 x3 : Value} (h : w.heap[g]? = some (.cells #[x0, x1, x2, x3] ty (0, 0))) : (w.cell? ⟨g, 0, none⟩ = some x0 ∧ w.cell? ⟨g, 1, none⟩ = some x1 ∧ w.cell? ⟨g, 2, none⟩ = some x2 ∧ w.cell? ⟨g, 3, none⟩ = some x3) ∧ w.frozen? ⟨g, 0, none⟩ = false ∧ w.frozen? ⟨g, 1, none⟩ = false ∧ w.frozen? ⟨g, 2, none⟩ = false ∧ w.frozen? ⟨g, 3, none⟩ = false := by
  refine ⟨⟨?_, ?_, ?_, ?_⟩, ?_, ?_, ?_, ?_⟩ <;> simp [World.cell?, World.frozen?, h]
theorem heap_kept {w w' : World} {b g : Nat} {o : Obj} (h : w.heap[b]? = some o) (hg : w.grownBy w' (some g)) (hne : b ≠ g) : w'.heap[b]? = some o := by
  have hlt : b < w.heap.size := by
    rcases Nat.lt_or_ge b w.heap.size with h' | h'
    · exact h'
    · simp [Array.getElem?_eq_none h'] at h
  rw [hg.block b hlt (fun e => hne (by injection e))]
  exact h
theorem heap_old {w w' : World} {b : Nat} {o : Obj} (h : w.heap[b]? = some o) (hb : Below w.heap.size w w') : w'.heap[b]? = some o := by
  have hlt : b < w.heap.size := by
    rcases Nat.lt_or_ge b w.heap.size with h' | h'
    · exact h'
    · simp [Array.getElem?_eq_none h'] at h
  rw [hb.block b hlt]
  exact h
def RetAl (R W : World) (g : Nat) (A : Option Addr) (n c k : Nat) (l : List Int) (L : List Int) (e : Ending) (w' : World) : Prop := ∃ r : Int, r ∈ L ∧ e = .returned (.int .i64 r) ∧ Cx R w' g A n c k l ∧ W.grownBy w' (some g)
/-- among, at a list that was just laid. -/
theorem among_lit {R W : World} {g n c k : Nat} {A : Option Addr} {l : List Int} (h : Cx R W g A n c k l) (hk : k ≤ 1099511627000) (L : List Int) (m : Nat) (b : Nat) (hb : b = W.heap.size) (hm : m = L.length) (hm1 : 1 ≤ m) (hm2 : m ≤ 1000) (cs : Array Value) (hcs : cs.toList = L.map (Value.int .i64)) (d : Nat) :
    Calls Try.prog 41 #[.pointer (some ⟨g, 0, none⟩), .slice (some ⟨b, 0, none⟩) m d] (W.alloc (.cells cs 3)) (RetAl R W g A n c (k + 2) l L) := by
  subst hb hm
  have h0 := h.below (bAlloc (Below.refl _ W) (.cells cs 3))
  refine (among_cx h0 L.length d L hk (int_lit L (by simp only [maxLen]; omega) cs hcs) h.cur.lt hm1 (by omega)).mono ?_
  rintro e w' ⟨r, hr, he, hC, hg⟩
  exact ⟨r, hr, he, h0.grow hC hg, (World.grownBy_alloc W _ _).trans hg⟩
theorem Cx.pick {R w : World} {g n c k : Nat} {A : Option Addr} {l : List Int} (h : Cx R w g A n c k l) {lo hi : Int} {k' : Nat} {e : Ending} {w' : World} (hr : RetNx w g A n c k' lo hi e w') : ∃ r : Int, (lo ≤ r ∧ r ≤ hi) ∧ e = .returned (.int .i64 r) ∧ Cx R w' g A n c k' l ∧ w.grownBy w' (some g) := by
  obtain ⟨r, h1, h2, h3, h4⟩ := hr; exact ⟨r, h1, h2, h.grow h3 h4, h4⟩
theorem grow_set {w w' : World} {g b : Nat} (h : w.grownBy w' (some g)) (hb : w.heap.size ≤ b) (j : Nat) (v : Value) : w.grownBy (w'.setCell ⟨b, j, none⟩ v) (some g) :=
  grown_new (D := some ⟨b, 0, none⟩) h (cur_grown w' b j v) (fun q hq => (show b = q by simpa [blkOf] using hq) ▸ hb)
theorem Cx.set {R w : World} {g n c k b : Nat} {A : Option Addr} {l : List Int} (h : Cx R w g A n c k l) (hb : R.heap.size ≤ b) (hne : b ≠ g) (j : Nat) (v : Value) : Cx R (w.setCell ⟨b, j, none⟩ v) g A n c k l :=
  h.row (cur_grown w b j v) (fun e => by injection e with e; exact hne e) (fun q hq => by injection hq with hq; omega)
end Go.Proofs.Ytpjaiihkgeabiaa
