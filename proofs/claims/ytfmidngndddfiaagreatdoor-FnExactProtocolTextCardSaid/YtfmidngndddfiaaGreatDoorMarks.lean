/- Slices of slices of ints: what they read as, rows of rows that a call made, and the law file's functions on them. Conditions: lengths below 2^40. -/
import Derived.Test.YtfmidngndddfiaaGreatDoorLift
import Derived.Test.YtfmidngndddfiaaGreatDoorLawKit
import Derived.Test.YtfmidngndddfiaaGreatDoorInts
import Derived.Deep.Matrix
import Derived.Deep.RegionHeld3
set_option linter.unusedVariables false
set_option linter.unusedSimpArgs false
set_option maxRecDepth 100000
namespace Go.Proofs.YtfmidngndddfiaaGreatDoor
open Go.ChangeShapes Go.WideShapes Go.ChangeAt Go.RowKit
/-- A slice of slices of ints reads as ll. -/
def RdM (w : World) (A : Option Addr) (n : Nat) (ll : List (List Int)) : Prop :=
  ll.length = n ∧ (0 < n → ∃ b off, A = some ⟨b, off, none⟩ ∧ b < w.heap.size ∧ ∀ j, j < n → ∃ B m d, w.cell? ⟨b, off + j, none⟩ = some (.slice B m d) ∧ RdI w B m (ll[j]?.getD []) ∧ m ≤ d ∧ d ≤ maxLen)
theorem RdM.below {w w' : World} {A : Option Addr} {n : Nat} {ll : List (List Int)} (h : RdM w A n ll) (hb : Below w.heap.size w w') : RdM w' A n ll := by
  refine ⟨h.1, fun hn => ?_⟩
  obtain ⟨b, off, rfl, hlt, hc⟩ := h.2 hn
  refine ⟨b, off, rfl, Nat.lt_of_lt_of_le hlt hb.size, fun j hj => ?_⟩
  obtain ⟨B, m, d, h1, h2, h3⟩ := hc j hj
  exact ⟨B, m, d, (hb.cell (p := ⟨b, off + j, none⟩) hlt).trans h1, h2.below hb, h3⟩
theorem RdM.len {w : World} {A : Option Addr} {n : Nat} {ll : List (List Int)} (h : RdM w A n ll) : ll.length = n := h.1
/-- A row of rows of ints of the call's own, each in a block of its own. -/
def OwM (base : Nat) (w : World) (A : Option Addr) (n c : Nat) (ll : List (List Int)) : Prop :=
  ll.length = n ∧ ∃ (B : Nat → Option Addr) (m d : Nat → Nat), Ow 23 1 base w A n c ((List.range n).map fun j => .slice (B j) (m j) (d j)) ∧
    (∀ j, j < n → OwI base w (B j) (m j) (d j) (ll[j]?.getD []) ∧ (blkOf (B j) = none ∨ blkOf (B j) ≠ blkOf A)) ∧ ∀ i j, i < n → j < n → i ≠ j → (blkOf (B i) = none ∨ blkOf (B i) ≠ blkOf (B j))
section
variable {base n c : Nat} {w w' : World} {A : Option Addr} {ll : List (List Int)}
theorem OwM.len (h : OwM base w A n c ll) : ll.length = n := h.1
theorem OwM.below (h : OwM base w A n c ll) (hb : Below w.heap.size w w') : OwM base w' A n c ll := by
  obtain ⟨h1, B, m, d, h2, h3, h4⟩ := h
  exact ⟨h1, B, m, d, h2.below hb, fun j hj => ⟨(h3 j hj).1.below hb, (h3 j hj).2⟩, h4⟩
theorem OwM.cap_ (h : OwM base w A n c ll) : n ≤ c ∧ c ≤ maxLen := by obtain ⟨_, B, m, d, h2, _⟩ := h; exact h2.cap_
theorem OwM.rd (h : OwM base w A n c ll) : RdM w A n ll := by
  obtain ⟨h1, B, m, d, h2, h3, h4⟩ := h
  refine ⟨h1, fun hn => ?_⟩
  obtain ⟨b, off, e, hlt, hc⟩ := h2.rd.2 hn
  exact ⟨b, off, e, hlt, fun j hj => ⟨B j, m j, d j, hc j _ (by simp [hj]), (h3 j hj).1.rd, (h3 j hj).1.cap_⟩⟩
theorem OwM.form_ (h : OwM base w A n c ll) (hn : 0 < n) : ∃ g, A = some ⟨g, 0, none⟩ ∧ base ≤ g ∧ g < w.heap.size := by
  obtain ⟨_, B, m, d, h2, _⟩ := h; exact h2.form_ hn
theorem OwM.cellAt {g : Nat} (h : OwM base w (some ⟨g, 0, none⟩) n c ll) (k : Nat) (hk : k < n) : ∃ B m d, w.cell? ⟨g, k, none⟩ = some (.slice B m d) := by
  obtain ⟨_, B, m, d, h2, _⟩ := h
  refine ⟨B k, m k, d k, ?_⟩
  rw [Ow.cell_ h2 k (by omega)]
  simp [hk]
theorem OwM.frozenAt {g : Nat} (h : OwM base w (some ⟨g, 0, none⟩) n c ll) (k : Nat) : w.frozen? ⟨g, k, none⟩ = false := by
  obtain ⟨_, B, m, d, h2, _⟩ := h
  exact Ow.frozen_ h2 k
theorem range_set {α : Type} (f : Nat → α) (n k : Nat) (v : α) : ((List.range n).map f).set k v = (List.range n).map fun j => if j = k then v else f j := by
  apply List.ext_getElem (by simp)
  intro i h1 h2
  simp only [List.getElem_set, List.getElem_map, List.getElem_range]
  by_cases e : k = i
  · subst e; simp
  · rw [if_neg e, if_neg (fun h => e h.symm)]
/-- A new row put at place k. -/
theorem OwM.put {g k m0 d0 : Nat} {B0 : Option Addr} {l : List Int} {x : World} (h : OwM base w (some ⟨g, 0, none⟩) n c ll) (hk : k < n) (hr : OwI w.heap.size (ext w x) B0 m0 d0 l) (hbase : base ≤ w.heap.size) :
    OwM base ((ext w x).setCell ⟨g, k, none⟩ (.slice B0 m0 d0)) (some ⟨g, 0, none⟩) n c (ll.set k l) := by
  have h' := h
  obtain ⟨h1, B, m, d, h2, h3, h4⟩ := h'
  have h2' := h2.below (ext_below w x)
  have hst := Ow.stored_ h2' k (.slice B0 m0 d0)
  obtain ⟨hst, hg⟩ := hst
  rw [range_set] at hst
  have hgb : g < w.heap.size := (h2.blk (g := g) rfl).2
  have hr0 : ∀ z, blkOf B0 = some z → w.heap.size ≤ z := fun z hz => (hr.blk hz).1
  have hold : ∀ j, j < n → ∀ z, blkOf (B j) = some z → z < w.heap.size := fun j hj z hz => ((h3 j hj).1.blk hz).2
  refine ⟨by simpa using h1, fun j => if j = k then B0 else B j, fun j => if j = k then m0 else m j, fun j => if j = k then d0 else d j, ?_, fun j hj => ?_, fun i j hi hj hij => ?_⟩
  · refine cast (congrArg (Ow _ _ _ _ _ _ _) (List.map_congr_left fun j _ => ?_)) hst
    by_cases e : j = k <;> simp [e]
  · by_cases e : j = k
    · subst e
      simp only [if_true]
      have hne : blkOf B0 = none ∨ blkOf B0 ≠ some g := by
        cases hB : blkOf B0 with
        | none => exact .inl rfl
        | some z => exact .inr fun hh => by have := hr0 z hB; cases hh; omega
      refine ⟨?_, hne⟩
      have hl : (ll.set j l)[j]?.getD [] = l := by simp [h1, hj]
      rw [hl]
      exact (hr.mono hbase).kept hg hne
    · simp only [if_neg e]
      have hl : (ll.set k l)[j]?.getD [] = ll[j]?.getD [] := by rw [List.getElem?_set_ne (fun h => e h.symm)]
      rw [hl]
      exact ⟨((h3 j hj).1.below (ext_below w x)).kept hg (h3 j hj).2, (h3 j hj).2⟩
  · by_cases e1 : i = k
    · have e2 : j ≠ k := fun h => hij (e1.trans h.symm)
      simp only [if_pos e1, if_neg e2]
      cases hB : blkOf B0 with
      | none => exact .inl rfl
      | some z => exact .inr fun hh => by have := hr0 z hB; have := hold j hj z hh.symm; omega
    · by_cases e2 : j = k
      · simp only [if_neg e1, if_pos e2]
        cases hB : blkOf (B i) with
        | none => exact .inl rfl
        | some z => exact .inr fun hh => by have := hr0 z hh.symm; have := hold i hi z hB; omega
      · simp only [if_neg e1, if_neg e2]; exact h4 i j hi hj hij
end
end Go.Proofs.YtfmidngndddfiaaGreatDoor
