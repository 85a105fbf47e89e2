/- Marking of tables and of Marks; short forms of the contracts on Marks for the laws. Conditions: lengths below 2^40. -/
import Derived.Test.YtfmidngndddfiaaGreatDoorMarksC
set_option linter.unusedVariables false
set_option linter.unusedSimpArgs false
set_option maxRecDepth 100000
namespace Go.Proofs.YtfmidngndddfiaaGreatDoor
open Go.ChangeShapes Go.WideShapes Go.ChangeAt Go.RowKit
/-- From w to w' only blocks from lo on and below hi have been written, and new ones have come. -/
structure Mid (lo hi : Nat) (w w' : World) : Prop where
  os : w'.os = w.os
  tape : w'.tape = w.tape
  output : w'.output = w.output
  size : w.heap.size ≤ w'.heap.size
  block : ∀ k, k < w.heap.size → k < lo ∨ hi ≤ k → w'.heap[k]? = w.heap[k]?
section
variable {lo hi : Nat} {w w' w'' R : World}
theorem Mid.refl : Mid lo hi w w := ⟨rfl, rfl, rfl, Nat.le_refl _, fun _ _ _ => rfl⟩
theorem Mid.trans (h : Mid lo hi w w') (k : Mid lo hi w' w'') : Mid lo hi w w'' :=
  ⟨k.os.trans h.os, k.tape.trans h.tape, k.output.trans h.output, Nat.le_trans h.size k.size, fun i hi hn => (k.block i (Nat.lt_of_lt_of_le hi h.size) hn).trans (h.block i hi hn)⟩
theorem Mid.mono {lo' hi' : Nat} (h : Mid lo hi w w') (h1 : lo' ≤ lo) (h2 : hi ≤ hi') : Mid lo' hi' w w' := ⟨h.os, h.tape, h.output, h.size, fun k hk hn => h.block k hk (by omega)⟩
theorem Mid.of_below (h : Below w.heap.size w w') : Mid lo hi w w' := ⟨h.os, h.tape, h.output, h.size, fun k hk _ => h.block k hk⟩
theorem Mid.of_grown {row : Option Nat} (h : w.grownBy w' row) (hr : ∀ k, row = some k → lo ≤ k ∧ k < hi) : Mid lo hi w w' :=
  ⟨h.os, h.tape, h.output, h.size, fun k hk hn => h.block k hk (fun e => by have := hr k e.symm; omega)⟩
theorem Mid.below (h : Mid lo hi w w') (hR : Below R.heap.size R w) (hlo : R.heap.size ≤ lo) : Below R.heap.size R w' :=
  hR.trans ⟨h.os, h.tape, h.output, h.size, fun k hk => h.block k (Nat.lt_of_lt_of_le hk hR.size) (by omega)⟩
theorem Mid.cell (h : Mid lo hi w w') {b o : Nat} {s : Option Nat} (hb : b < w.heap.size) (hn : b < lo ∨ hi ≤ b) : w'.cell? ⟨b, o, s⟩ = w.cell? ⟨b, o, s⟩ := World.cell?_of_block (h.block b hb hn)
theorem Ow.keptM {e s base n c : Nat} {A : Option Addr} {xs : List Value} (h : Ow e s base w A n c xs) (hg : Mid lo hi w w') (hn : ∀ g, blkOf A = some g → g < lo ∨ hi ≤ g) : Ow e s base w' A n c xs := by
  refine ⟨h.1, ?_⟩
  rcases h.2 with hnil | ⟨g, cap, cur, hv, hb, hgg, rest⟩
  · exact .inl hnil
  · refine .inr ⟨g, cap, cur, hv, hb, ?_, rest⟩
    simp at hv
    rw [hg.block g (Array.getElem?_eq_some_iff.1 hgg).1 (hn g (by rw [hv.1]; rfl))]
    exact hgg
theorem OwI.keptM {base n c : Nat} {A : Option Addr} {l : List Int} (h : OwI base w A n c l) (hg : Mid lo hi w w') (hn : ∀ g, blkOf A = some g → g < lo ∨ hi ≤ g) : OwI base w' A n c l := Ow.keptM h hg hn
end
/-- A row of a table has been written anew. -/
theorem OwMB.row {base hi n c k : Nat} {w w' : World} {A : Option Addr} {ll : List (List Int)} {l' : List Int} {B0 : Option Addr} {m0 d0 : Nat}
    (h : OwMB base hi w A n c ll) (hk : k < n)
    (hf : ∀ (B : Nat → Option Addr) (m d : Nat → Nat), Ow 23 1 base w A n c ((List.range n).map fun j => .slice (B j) (m j) (d j)) → B k = B0 ∧ m k = m0 ∧ d k = d0)
    (ho : OwI base w' B0 m0 d0 l') (hg : w.grownBy w' (blkOf B0)) : OwMB base hi w' A n c (ll.set k l') ∧ Mid base hi w w' := by
  obtain ⟨g1, B, m, d, ⟨g2, g3, g4⟩, g5, g6⟩ := h
  obtain ⟨e1, e2, e3⟩ := hf B m d g2
  refine ⟨⟨by simpa using g1, B, m, d, ⟨?_, fun j hj => ⟨?_, (g3 j hj).2⟩, g4⟩, g5, g6⟩, ?_⟩
  · refine g2.kept hg ?_
    have := (g3 k hk).2
    rw [e1] at this
    rcases this with h0 | h0
    · rw [h0]
      cases blkOf A <;> simp
    · exact .inr fun h => h0 h.symm
  · by_cases e : j = k
    · subst e
      have : (ll.set j l')[j]?.getD [] = l' := by simp [g1, hj]
      rw [this, e1, e2, e3]
      exact ho
    · have : (ll.set k l')[j]?.getD [] = ll[j]?.getD [] := by rw [List.getElem?_set_ne (fun h => e h.symm)]
      rw [this]
      refine (g3 j hj).1.kept hg ?_
      have := g4 j k hj hk e
      rw [e1] at this
      exact this
  · refine Mid.of_grown hg fun z hz => ?_
    have h1 := (g3 k hk).1
    have h2 := g6 k hk z (by rw [e1]; exact hz)
    rw [e1, e2, e3] at h1
    exact ⟨(h1.blk hz).1, h2⟩
theorem OwMB.at_ {base hi n c : Nat} {w : World} {A : Option Addr} {ll : List (List Int)} (h : OwMB base hi w A n c ll) (k : Nat) (hk : k < n) :
    ∃ g B0 m0 d0, A = some ⟨g, 0, none⟩ ∧ g < w.heap.size ∧ w.cell? ⟨g, k, none⟩ = some (.slice B0 m0 d0) ∧ OwI base w B0 m0 d0 (ll[k]?.getD []) ∧
      ∀ (w' : World) (l' : List Int), OwI base w' B0 m0 d0 l' → w.grownBy w' (blkOf B0) → OwMB base hi w' A n c (ll.set k l') ∧ Mid base hi w w' := by
  have h0 := h
  obtain ⟨g1, B, m, d, ⟨g2, g3, g4⟩, g5, g6⟩ := h
  obtain ⟨g, rfl, hb, hz⟩ := g2.form_ (by omega)
  have hcell : ∀ (B : Nat → Option Addr) (m d : Nat → Nat), Ow 23 1 base w (some ⟨g, 0, none⟩) n c ((List.range n).map fun j => .slice (B j) (m j) (d j)) → w.cell? ⟨g, k, none⟩ = some (.slice (B k) (m k) (d k)) := fun B m d h => by
    rw [Ow.cell_ h k (by omega)]; simp [hk]
  refine ⟨g, B k, m k, d k, rfl, hz, hcell B m d g2, (g3 k hk).1, fun w' l' ho hg => h0.row hk (fun B' m' d' h' => ?_) ho hg⟩
  have e := (hcell B' m' d' h').symm.trans (hcell B m d g2)
  simp at e
  exact e
theorem OwMB.keptM {base hi lo' hi' n c : Nat} {w w' : World} {A : Option Addr} {ll : List (List Int)} (h : OwMB base hi w A n c ll) (hg : Mid lo' hi' w w') (hd : hi' ≤ base ∨ hi ≤ lo') : OwMB base hi w' A n c ll := by
  obtain ⟨g1, B, m, d, ⟨g2, g3, g4⟩, g5, g6⟩ := h
  exact ⟨g1, B, m, d, ⟨g2.keptM hg (fun g hg' => by have := (g2.blk hg').1; have := g5 g hg'; omega), fun j hj => ⟨(g3 j hj).1.keptM hg (fun g hg' => by have := ((g3 j hj).1.blk hg').1; have := g6 j hj g hg'; omega), (g3 j hj).2⟩, g4⟩, g5, g6⟩
/-- Two tables of the call's own, their blocks from base on and below hi. -/
def OwMk (base hi : Nat) (w : World) (A : Option Addr) (n c : Nat) (B : Option Addr) (m d : Nat) (gg kk : List (List Int)) : Prop := ∃ mid, base ≤ mid ∧ mid ≤ hi ∧ OwMB base mid w A n c gg ∧ OwMB mid hi w B m d kk
def RetMk (w : World) (gg kk : List (List Int)) (e : Ending) (w' : World) : Prop := ∃ A n c B m d x, e = .returned (.agg #[.slice A n c, .slice B m d]) ∧ w' = ext w x ∧ OwMk w.heap.size (ext w x).heap.size (ext w x) A n c B m d gg kk
section
variable {base hi n m c d : Nat} {w w' : World} {A B : Option Addr} {gg kk : List (List Int)}
theorem OwMk.below (h : OwMk base hi w A n c B m d gg kk) (hb : Below w.heap.size w w') : OwMk base hi w' A n c B m d gg kk := by
  obtain ⟨mid, h1, h2, h3, h4⟩ := h; exact ⟨mid, h1, h2, h3.below hb, h4.below hb⟩
theorem RdMk.of_rd (hA : RdM w A n gg) (hB : RdM w B m kk) (hs : mTotal gg + mTotal kk ≤ 1048576) : RdMk w A n B m gg kk := by
  have h1 := mTotal_ge gg
  have h2 := mTotal_ge kk
  have h3 := hA.len
  have h4 := hB.len
  refine ⟨hA, hB, by omega, by omega, fun j hj => ?_, fun j hj => ?_⟩
  · have := mTotal_row (ll := gg) (k := j) (by omega); omega
  · have := mTotal_row (ll := kk) (k := j) (by omega); omega
theorem OwMk.rd (h : OwMk base hi w A n c B m d gg kk) (hs : mTotal gg + mTotal kk ≤ 1048576) : RdMk w A n B m gg kk := by
  obtain ⟨mid, h1, h2, h3, h4⟩ := h; exact RdMk.of_rd h3.toM.rd h4.toM.rd hs
theorem OwMk.capA (h : OwMk base hi w A n c B m d gg kk) : n ≤ c := by obtain ⟨mid, h1, h2, h3, h4⟩ := h; exact h3.toM.cap_.1
end
theorem toMk_any (w : World) (A B : Option Addr) (n m c d : Nat) (gg kk : List (List Int)) (hm : RdMk w A n B m gg kk) :
    Calls Tryz.prog 28 #[.agg #[.slice A n c, .slice B m d]] w (RetMk w gg kk) :=
  (toMarks_any w A B n m c d gg kk hm.1 hm.2.1 hm.2.2.1 hm.2.2.2.1 hm.2.2.2.2.1 hm.2.2.2.2.2).mono fun e w' h => by
    obtain ⟨A1, n1, c1, B1, m1, d1, x, mid, he, hw, hA, hB, hmid⟩ := h
    refine ⟨A1, n1, c1, B1, m1, d1, x, he, hw, min mid (ext w x).heap.size, ?_, Nat.min_le_right _ _, ?_, ?_⟩
    · have := ext_le w x; omega
    · obtain ⟨g1, B', m', d', ⟨g2, g3, g4⟩, g5, g6⟩ := hA
      exact ⟨g1, B', m', d', ⟨g2, g3, g4⟩, fun z hz => by have := g5 z hz; have := (g2.blk hz).2; omega, fun j hj z hz => by have := g6 j hj z hz; have := ((g3 j hj).1.blk hz).2; omega⟩
    · exact hB.mono (Nat.min_le_left _ _) (Nat.le_refl _)
theorem eqMk_any (w : World) (A B A' B' : Option Addr) (n m c d n' m' c' d' : Nat) (gg kk : List (List Int)) (hm : RdMk w A n B m gg kk) (hm' : RdMk w A' n' B' m' gg kk) :
    Calls Tryz.prog 36 #[.agg #[.slice A n c, .slice B m d], .agg #[.slice A' n' c', .slice B' m' d']] w fun e w' => e = .returned (.bool true) ∧ ∃ x, w' = ext w x :=
  eqMarks_any w A B A' B' n m c d n' m' c' d' gg kk hm.1 hm.2.1 hm'.1 hm'.2.1 hm.2.2.1 hm.2.2.2.1 hm.2.2.2.2.1 hm.2.2.2.2.2
end Go.Proofs.YtfmidngndddfiaaGreatDoor
