/- What the reference draws of codes: a box with a code; pointsCode. Conditions: none. -/
import Derived.Test.YtlfhhkgleapamaaGreatDoorRDr3
set_option linter.unusedVariables false
set_option linter.unusedSimpArgs false
set_option maxRecDepth 100000
set_option maxHeartbeats 16000000
namespace Go.Proofs.YtlfhhkgleapamaaGreatDoor
open Go.RowKit
variable {L : List Int} {g m ty x : Nat} {v x0 x1 x2 x3 x4 x5 : Value} {W w : World}
def zCode : Obj := .cells #[.slice none 0 0, .slice none 0 0, .int .i64 0, .int .i64 0, .int .i64 0, .int .i64 0] 27
theorem blk6 (h : w.heap[g]? = some (.cells #[x0, x1, x2, x3, x4, x5] ty (0, 0))) : (w.cell? ⟨g, 0, none⟩ = some x0 /\ w.cell? ⟨g, 1, none⟩ = some x1 /\ w.cell? ⟨g, 2, none⟩ = some x2 /\ w.cell? ⟨g, 3, none⟩ = some x3 /\ w.cell? ⟨g, 4, none⟩ = some x4 /\ w.cell? ⟨g, 5, none⟩ = some x5) /\ w.frozen? ⟨g, 0, none⟩ = false /\ w.frozen? ⟨g, 1, none⟩ = false /\ w.frozen? ⟨g, 2, none⟩ = false /\ w.frozen? ⟨g, 3, none⟩ = false /\ w.frozen? ⟨g, 4, none⟩ = false /\ w.frozen? ⟨g, 5, none⟩ = false := by
 refine ⟨⟨?_, ?_, ?_, ?_, ?_, ?_⟩, ?_, ?_, ?_, ?_, ?_, ?_⟩ <;> simp [World.cell?, World.frozen?, h]
theorem set6_0 (h : w.heap[g]? = some (.cells #[x0, x1, x2, x3, x4, x5] ty (0, 0))) : (w.setCell ⟨g, 0, none⟩ v).heap[g]? = some (.cells #[v, x1, x2, x3, x4, x5] ty (0, 0)) := by
 simp [World.setCell, Array.getElem?_modify, h]
theorem set6_1 (h : w.heap[g]? = some (.cells #[x0, x1, x2, x3, x4, x5] ty (0, 0))) : (w.setCell ⟨g, 1, none⟩ v).heap[g]? = some (.cells #[x0, v, x2, x3, x4, x5] ty (0, 0)) := by
 simp [World.setCell, Array.getElem?_modify, h]
theorem set6_2 (h : w.heap[g]? = some (.cells #[x0, x1, x2, x3, x4, x5] ty (0, 0))) : (w.setCell ⟨g, 2, none⟩ v).heap[g]? = some (.cells #[x0, x1, v, x3, x4, x5] ty (0, 0)) := by
 simp [World.setCell, Array.getElem?_modify, h]
theorem set6_3 (h : w.heap[g]? = some (.cells #[x0, x1, x2, x3, x4, x5] ty (0, 0))) : (w.setCell ⟨g, 3, none⟩ v).heap[g]? = some (.cells #[x0, x1, x2, v, x4, x5] ty (0, 0)) := by
 simp [World.setCell, Array.getElem?_modify, h]
theorem set6_4 (h : w.heap[g]? = some (.cells #[x0, x1, x2, x3, x4, x5] ty (0, 0))) : (w.setCell ⟨g, 4, none⟩ v).heap[g]? = some (.cells #[x0, x1, x2, x3, v, x5] ty (0, 0)) := by
 simp [World.setCell, Array.getElem?_modify, h]
theorem set6_5 (h : w.heap[g]? = some (.cells #[x0, x1, x2, x3, x4, x5] ty (0, 0))) : (w.setCell ⟨g, 5, none⟩ v).heap[g]? = some (.cells #[x0, x1, x2, x3, x4, v] ty (0, 0)) := by
 simp [World.setCell, Array.getElem?_modify, h]
structure CB (R w W : World) (g b : Nat) (A : OA) (n c k : Nat) (l : List Int) (κ : Kf) (EA : OA) (en ec : Nat) (LA : OA) (ln lc : Nat) (q0 q1 q2 q3 : Int) : Prop where
 cx : Cx R W g A n c k l
 gr : w.grownBy W (some g)
 hr : w.heap.size <= b
 hg : g < w.heap.size
 hb : W.heap[b]? = some (oC EA en ec LA ln lc q0 q1 q2 q3)
 th : Th w.heap.size κ W
 oE : ∃ el : List El, Ow 112 4 w.heap.size W EA en ec (elCells el) /\ ∀ x ∈ el, x.1.size <= 100
 oL : ∃ ll, OwI w.heap.size W LA ln lc ll
 ne : blkOf EA = none ∨ blkOf EA ≠ blkOf LA
 nE : blkOf EA ≠ some b
 nL : blkOf LA ≠ some b
 kE : ∀ z, blkOf EA = some z -> (κ z).1 = 0
 kL : ∀ z, blkOf LA = some z -> (κ z).1 = 0
 kb : (κ b).1 = 0
def CdO (base : Nat) (w : World) (EA : OA) (en ec : Nat) (LA : OA) (ln lc : Nat) : Prop := (∃ el : List El, Ow 112 4 base w EA en ec (elCells el) /\ ∀ x ∈ el, x.1.size <= 100) /\ (∃ ll, OwI base w LA ln lc ll) /\ (blkOf EA = none ∨ blkOf EA ≠ blkOf LA) /\ en <= 100 /\ ln <= 100
def RetPC (R w : World) (g : Nat) (A : OA) (n c k : Nat) (l : List Int) (me ml : Nat) (e : Ending) (w' : World) : Prop := ∃ (EA : OA) (en ec : Nat) (LA : OA) (ln lc : Nat) (q0 q1 q2 q3 : Int), e = .returned (.agg #[.slice EA en ec, .slice LA ln lc, .int .i64 q0, .int .i64 q1, .int .i64 q2, .int .i64 q3]) /\ Cx R w' g A n c k l /\ w.grownBy w' (some g) /\ CdO w.heap.size w' EA en ec LA ln lc /\ me <= en /\ ml <= ln /\ ln <= 10 - ml
section
variable {R w W W' : World} {g b n c k k' : Nat} {A : OA} {l : List Int} {κ κ' : Kf} {EA : OA} {en ec : Nat} {LA : OA} {ln lc : Nat} {q0 q1 q2 q3 : Int}
theorem CB.nEg (F : CB R w W g b A n c k l κ EA en ec LA ln lc q0 q1 q2 q3) : blkOf EA ≠ some g := fun e => by
 obtain ⟨el, o1, s1⟩ := F.oE;have := (Ow.blk o1 e).1;have := F.hg;omega
theorem CB.nLg (F : CB R w W g b A n c k l κ EA en ec LA ln lc q0 q1 q2 q3) : blkOf LA ≠ some g := fun e => by
 obtain ⟨ll, o2⟩ := F.oL;have := (o2.blk e).1;have := F.hg;omega
theorem CB.le (F : CB R w W g b A n c k l κ EA en ec LA ln lc q0 q1 q2 q3) : w.heap.size <= W.heap.size := F.gr.size
theorem CB.lt_ (F : CB R w W g b A n c k l κ EA en ec LA ln lc q0 q1 q2 q3) : b < W.heap.size := (Array.getElem?_eq_some_iff.1 F.hb).1
theorem CB.step (F : CB R w W g b A n c k l κ EA en ec LA ln lc q0 q1 q2 q3) (hX : Cx R W' g A n c k' l) (hg : W.grownBy W' (some g)) : CB R w W' g b A n c k' l κ EA en ec LA ln lc q0 q1 q2 q3 := by
 have h1 := F.hr;have h2 := F.hg;obtain ⟨el, o1, s1⟩ := F.oE;obtain ⟨ll, o2⟩ := F.oL;exact ⟨hX, F.gr.trans hg, F.hr, F.hg, heap_kept F.hb hg Om, F.th.grow hg (F.th.low_ F.hg), ⟨el, Ow.kept o1 hg (.inr F.nEg), s1⟩, ⟨ll, o2.kept hg (.inr F.nLg)⟩, F.ne, F.nE, F.nL, F.kE, F.kL, F.kb⟩
theorem CB.below (F : CB R w W g b A n c k l κ EA en ec LA ln lc q0 q1 q2 q3) (hb : Below W.heap.size W W') : CB R w W' g b A n c k l κ EA en ec LA ln lc q0 q1 q2 q3 := F.step (F.cx.below hb) (grownBy_of_below hb)
theorem CB.drew (F : CB R w W g b A n c k l κ EA en ec LA ln lc q0 q1 q2 q3) : CB R w W.drew g b A n c k l κ EA en ec LA ln lc q0 q1 q2 q3 := F.below (bDrew bR)
theorem CB.mono (F : CB R w W g b A n c k l κ EA en ec LA ln lc q0 q1 q2 q3) (hk : k <= k') : CB R w W g b A n c k' l κ EA en ec LA ln lc q0 q1 q2 q3 := ⟨F.cx.mono hk, F.gr, F.hr, F.hg, F.hb, F.th, F.oE, F.oL, F.ne, F.nE, F.nL, F.kE, F.kL, F.kb⟩
theorem CB.withK (F : CB R w W g b A n c k l κ EA en ec LA ln lc q0 q1 q2 q3) (hB : Below W.heap.size W W') (T : Th w.heap.size κ' W') (hx : Kx W.heap.size κ κ') : CB R w W' g b A n c k l κ' EA en ec LA ln lc q0 q1 q2 q3 := by
 have F2 := F.below hB;obtain ⟨el, o1, s1⟩ := F.oE;obtain ⟨ll, o2⟩ := F.oL;exact ⟨F2.cx, F2.gr, F2.hr, F2.hg, F2.hb, T, F2.oE, F2.oL, F2.ne, F2.nE, F2.nL, fun z e => by rw [hx z (Ow.blk o1 e).2]; exact F.kE z e, fun z e => by rw [hx z (o2.blk e).2]; exact F.kL z e, by rw [hx b F.lt_]; exact F.kb⟩
theorem CB.cells (F : CB R w W g b A n c k l κ EA en ec LA ln lc q0 q1 q2 q3) : (W.cell? ⟨b, 0, none⟩ = some (.slice EA en ec) /\ W.cell? ⟨b, 1, none⟩ = some (.slice LA ln lc) /\ W.cell? ⟨b, 2, none⟩ = some (.int .i64 q0) /\ W.cell? ⟨b, 3, none⟩ = some (.int .i64 q1) /\ W.cell? ⟨b, 4, none⟩ = some (.int .i64 q2) /\ W.cell? ⟨b, 5, none⟩ = some (.int .i64 q3)) /\ W.frozen? ⟨b, 0, none⟩ = false /\ W.frozen? ⟨b, 1, none⟩ = false /\ W.frozen? ⟨b, 2, none⟩ = false /\ W.frozen? ⟨b, 3, none⟩ = false /\ W.frozen? ⟨b, 4, none⟩ = false /\ W.frozen? ⟨b, 5, none⟩ = false := blk6 F.hb
theorem CB.grown {row : Option Nat} (F : CB R w W g b A n c k l κ EA en ec LA ln lc q0 q1 q2 q3) (hg : W.grownBy W' row) (hD : ∀ z, row = some z -> w.heap.size <= z /\ z ≠ b /\ (κ z).1 = 0) : Cx R W' g A n c k l /\ w.grownBy W' (some g) /\ W'.heap[b]? = some (oC EA en ec LA ln lc q0 q1 q2 q3) /\ Th w.heap.size κ W' := by
 have h2 := F.hg;have hle := F.cx.le;exact ⟨F.cx.row hg (fun e => by have := (hD g e).1; omega) (fun z hz => by have := (hD z hz).1; omega), F.gr.andThen hg (fun z hz => .inl (hD z hz).1), heap_row F.hb hg (fun e => (hD b e).2.1 rfl), F.th.row hg (fun z hz => (hD z hz).2.2)⟩
theorem CB.box (hX : Cx R W g A n c k l) (gr : w.grownBy W (some g)) (hr : w.heap.size <= b) (hg : g < w.heap.size) (j : Nat) (v : Value) : Cx R (W.setCell ⟨b, j, none⟩ v) g A n c k l /\ w.grownBy (W.setCell ⟨b, j, none⟩ v) (some g) :=
 ⟨hX.set (by have := hX.le; omega) Om j v, grow_set gr hr j v⟩
theorem CB.pushE (F : CB R w W g b A n c k l κ EA en ec LA ln lc q0 q1 q2 q3) : ∃ el, Ow 112 4 w.heap.size W EA en ec (elCells el) /\ ∀ (A' : OA) (c' : Nat) (W' : World) (p : El), p.1.size <= 100 -> Ow 112 4 w.heap.size W' A' (en + 1) c' (elCells (el ++ [p])) -> W.grownBy W' (blkOf EA) -> (blkOf A' = blkOf EA ∨ blkOf A' = some W.heap.size) ->
  (W'.heap[b]? = some (oC EA en ec LA ln lc q0 q1 q2 q3)) /\ CB R w (W'.setCell ⟨b, 0, none⟩ (.slice A' (en + 1) c')) g b A n c k l κ A' (en + 1) c' LA ln lc q0 q1 q2 q3 := by
 obtain ⟨el, o1, s1⟩ := F.oE;obtain ⟨ll, o2⟩ := F.oL;refine ⟨el, o1, fun A' c' W' p hp ho hg hd => ?_⟩;obtain ⟨f1, f2, f3, f4⟩ := F.grown hg (fun z hz => ⟨(Ow.blk o1 hz).1, fun e => F.nE (e ▸ hz), F.kE z hz⟩);have hset := gSetM W' b 0 (.slice A' (en + 1) c');obtain ⟨f5, f6⟩ := CB.box f1 f2 F.hr F.hg 0 (.slice A' (en + 1) c');have hbW := F.lt_;have hz1 : blkOf A' ≠ some b := fun e => by
  rcases hd with hd | hd
  ·
   exact F.nE (hd ▸ e)
  ·
   rw [hd] at e; injection e with e; omega
 have hz2 : ∀ z, blkOf A' = some z -> (κ z).1 = 0 := fun z e => by
  rcases hd with hd | hd
  ·
   exact F.kE z (hd ▸ e)
  ·
   rw [hd] at e; injection e with e; subst e; exact F.th.new_ (Nat.le_refl _)
 have o2' : OwI w.heap.size W' LA ln lc ll := o2.kept hg (by
  cases hz : blkOf LA with
  | none => exact .inl rfl
  | some z =>
   exact .inr fun e => by
    rcases F.ne with h | h
    ·
     rw [h] at e; cases e
    ·
     rw [hz] at h; exact h e.symm)
 refine ⟨f3, ⟨f5, f6, F.hr, F.hg, set6_0 f3, f4.set0 F.kb, ⟨_, Ow.kept ho hset (.inr hz1), fun x hx => ?_⟩, ⟨ll, o2'.kept hset (.inr F.nL)⟩, ?_, hz1, F.nL, hz2, F.kL, F.kb⟩⟩
 ·
  rcases List.mem_append.1 hx with hx | hx
  ·
   exact s1 x hx
  ·
   simp at hx; subst hx; exact hp
 ·
  rcases hd with hd | hd
  ·
   rw [hd]; exact F.ne
  ·
   refine .inr fun e => ?_
   rw [hd] at e;have := (o2.blk e.symm).2;omega
theorem CB.pushL (F : CB R w W g b A n c k l κ EA en ec LA ln lc q0 q1 q2 q3) : ∃ ll, OwI w.heap.size W LA ln lc ll /\ ∀ (A' : OA) (c' : Nat) (W' : World) (L : List Int), OwI w.heap.size W' A' (ln + 1) c' L -> W.grownBy W' (blkOf LA) -> (blkOf A' = blkOf LA ∨ blkOf A' = some W.heap.size) ->
  (W'.heap[b]? = some (oC EA en ec LA ln lc q0 q1 q2 q3)) /\ CB R w (W'.setCell ⟨b, 1, none⟩ (.slice A' (ln + 1) c')) g b A n c k l κ EA en ec A' (ln + 1) c' q0 q1 q2 q3 := by
 obtain ⟨el, o1, s1⟩ := F.oE;obtain ⟨ll, o2⟩ := F.oL;refine ⟨ll, o2, fun A' c' W' L ho hg hd => ?_⟩;obtain ⟨f1, f2, f3, f4⟩ := F.grown hg (fun z hz => ⟨(o2.blk hz).1, fun e => F.nL (e ▸ hz), F.kL z hz⟩);have hset := gSetM W' b 1 (.slice A' (ln + 1) c');obtain ⟨f5, f6⟩ := CB.box f1 f2 F.hr F.hg 1 (.slice A' (ln + 1) c');have hbW := F.lt_;have hz1 : blkOf A' ≠ some b := fun e => by
  rcases hd with hd | hd
  ·
   exact F.nL (hd ▸ e)
  ·
   rw [hd] at e; injection e with e; omega
 have hz2 : ∀ z, blkOf A' = some z -> (κ z).1 = 0 := fun z e => by
  rcases hd with hd | hd
  ·
   exact F.kL z (hd ▸ e)
  ·
   rw [hd] at e; injection e with e; subst e; exact F.th.new_ (Nat.le_refl _)
 have o1' := Ow.kept o1 hg F.ne;refine ⟨f3, ⟨f5, f6, F.hr, F.hg, set6_1 f3, f4.set0 F.kb, ⟨_, Ow.kept o1' hset (.inr F.nE), s1⟩, ⟨_, ho.kept hset (.inr hz1)⟩, ?_, F.nE, hz1, F.kE, hz2, F.kb⟩⟩
 rcases hd with hd | hd
 ·
  rw [hd]; exact F.ne
 ·
  cases hz : blkOf EA with
  | none => exact .inl rfl
  | some z =>
   exact .inr fun e => by
    rw [hd] at e;injection e with e;have := (Ow.blk o1 hz).2;omega
theorem CB.nilE (F : CB R w W g b A n c k l κ EA en ec LA ln lc q0 q1 q2 q3) : CB R w (W.setCell ⟨b, 0, none⟩ (.slice none 0 0)) g b A n c k l κ none 0 0 LA ln lc q0 q1 q2 q3 := by
 obtain ⟨ll, o2⟩ := F.oL;obtain ⟨f5, f6⟩ := CB.box F.cx F.gr F.hr F.hg 0 (.slice none 0 0);exact ⟨f5, f6, F.hr, F.hg, set6_0 F.hb, F.th.set0 F.kb, ⟨[], Ow.nil_, fun x hx => by cases hx⟩, ⟨ll, o2.kept (gSetM W b 0 _) (.inr F.nL)⟩, .inl rfl, (fun e => by cases e), F.nL, (fun z e => by cases e), F.kL, F.kb⟩
theorem CB.setQ0 (F : CB R w W g b A n c k l κ EA en ec LA ln lc q0 q1 q2 q3) (v : Int) : CB R w (W.setCell ⟨b, 2, none⟩ (.int .i64 v)) g b A n c k l κ EA en ec LA ln lc v q1 q2 q3 := by
 obtain ⟨el, o1, s1⟩ := F.oE;obtain ⟨ll, o2⟩ := F.oL;obtain ⟨f5, f6⟩ := CB.box F.cx F.gr F.hr F.hg 2 (.int .i64 v);exact ⟨f5, f6, F.hr, F.hg, set6_2 F.hb, F.th.set0 F.kb, ⟨el, Ow.kept o1 (gSetM W b 2 _) (.inr F.nE), s1⟩, ⟨ll, o2.kept (gSetM W b 2 _) (.inr F.nL)⟩, F.ne, F.nE, F.nL, F.kE, F.kL, F.kb⟩
theorem CB.setQ1 (F : CB R w W g b A n c k l κ EA en ec LA ln lc q0 q1 q2 q3) (v : Int) : CB R w (W.setCell ⟨b, 3, none⟩ (.int .i64 v)) g b A n c k l κ EA en ec LA ln lc q0 v q2 q3 := by
 obtain ⟨el, o1, s1⟩ := F.oE;obtain ⟨ll, o2⟩ := F.oL;obtain ⟨f5, f6⟩ := CB.box F.cx F.gr F.hr F.hg 3 (.int .i64 v);exact ⟨f5, f6, F.hr, F.hg, set6_3 F.hb, F.th.set0 F.kb, ⟨el, Ow.kept o1 (gSetM W b 3 _) (.inr F.nE), s1⟩, ⟨ll, o2.kept (gSetM W b 3 _) (.inr F.nL)⟩, F.ne, F.nE, F.nL, F.kE, F.kL, F.kb⟩
theorem CB.setQ2 (F : CB R w W g b A n c k l κ EA en ec LA ln lc q0 q1 q2 q3) (v : Int) : CB R w (W.setCell ⟨b, 4, none⟩ (.int .i64 v)) g b A n c k l κ EA en ec LA ln lc q0 q1 v q3 := by
 obtain ⟨el, o1, s1⟩ := F.oE;obtain ⟨ll, o2⟩ := F.oL;obtain ⟨f5, f6⟩ := CB.box F.cx F.gr F.hr F.hg 4 (.int .i64 v);exact ⟨f5, f6, F.hr, F.hg, set6_4 F.hb, F.th.set0 F.kb, ⟨el, Ow.kept o1 (gSetM W b 4 _) (.inr F.nE), s1⟩, ⟨ll, o2.kept (gSetM W b 4 _) (.inr F.nL)⟩, F.ne, F.nE, F.nL, F.kE, F.kL, F.kb⟩
theorem CB.setQ3 (F : CB R w W g b A n c k l κ EA en ec LA ln lc q0 q1 q2 q3) (v : Int) : CB R w (W.setCell ⟨b, 5, none⟩ (.int .i64 v)) g b A n c k l κ EA en ec LA ln lc q0 q1 q2 v := by
 obtain ⟨el, o1, s1⟩ := F.oE;obtain ⟨ll, o2⟩ := F.oL;obtain ⟨f5, f6⟩ := CB.box F.cx F.gr F.hr F.hg 5 (.int .i64 v);exact ⟨f5, f6, F.hr, F.hg, set6_5 F.hb, F.th.set0 F.kb, ⟨el, Ow.kept o1 (gSetM W b 5 _) (.inr F.nE), s1⟩, ⟨ll, o2.kept (gSetM W b 5 _) (.inr F.nL)⟩, F.ne, F.nE, F.nL, F.kE, F.kL, F.kb⟩
theorem CB.setE (F : CB R w W g b A n c k l κ EA en ec LA ln lc q0 q1 q2 q3) (h1 : 1 <= en) : ∃ z, EA = some ⟨z, 0, none⟩ /\ z < W.heap.size /\ z ≠ b /\ (∀ i, W.frozen? ⟨z, i, none⟩ = false) /\ (∀ i, i < en * 4 -> ∃ v, W.cell? ⟨z, i, none⟩ = some v) /\ ∀ j, j < en -> (∀ s : BA, s.size <= 100 -> CB R w (W.setCell ⟨z, j * 4, none⟩ (.string s)) g b A n c k l κ EA en ec LA ln lc q0 q1 q2 q3) /\ (∀ v : Int, CB R w (W.setCell ⟨z, j * 4 + 1, none⟩ (.int .i64 v)) g b A n c k l κ EA en ec LA ln lc q0 q1 q2 q3) /\ (∀ v : Int, CB R w (W.setCell ⟨z, j * 4 + 2, none⟩ (.int .i64 v)) g b A n c k l κ EA en ec LA ln lc q0 q1 q2 q3) /\ ∀ v : Int, CB R w (W.setCell ⟨z, j * 4 + 3, none⟩ (.int .i64 v)) g b A n c k l κ EA en ec LA ln lc q0 q1 q2 q3 := by
 obtain ⟨el, o1, s1⟩ := F.oE;obtain ⟨ll, o2⟩ := F.oL;obtain ⟨z, rfl, hz1, hz2⟩ := Ow.form_ o1 h1;have hzb : z ≠ b := fun e => F.nE (by rw [e]; rfl)
 have hlen := o1.1;refine ⟨z, rfl, hz2, hzb, fun i => Ow.frozen_ o1 i, fun i hi => ?_, fun j hj => ?_⟩
 ·
  rw [Ow.cell_ o1 i hi];exact ⟨_, List.getElem?_eq_getElem Om⟩
 ·
  have hl : el.length = en := by rw [elCells_len] at hlen; omega
  have hput : ∀ (off : Nat) (v : Value) (p : El), (elCells el).set off v = elCells (el.set j p) -> p.1.size <= 100 -> CB R w (W.setCell ⟨z, off, none⟩ v) g b A n c k l κ (some ⟨z, 0, none⟩) en ec LA ln lc q0 q1 q2 q3 := fun off v p e hp => by
   obtain ⟨f1, f2, f3, f4⟩ := F.grown (gSetM W z off v) (fun x hx => by injection hx with hx; subst hx; exact ⟨hz1, hzb, F.kE z rfl⟩);refine ⟨f1, f2, F.hr, F.hg, f3, f4, ⟨_, by rw [<- e]; exact (Ow.stored_ o1 off v).1, fun x hx => ?_⟩, ⟨ll, o2.kept (gSetM W z off v) ?_⟩, F.ne, F.nE, F.nL, F.kE, F.kL, F.kb⟩
   ·
    rcases List.mem_or_eq_of_mem_set hx with hx | rfl
    ·
     exact s1 x hx
    ·
     exact hp
   ·
    rcases F.ne with h | h
    ·
     cases h
    ·
     exact .inr fun e => h e.symm
  have hold : (el[j]?.getD zEl).1.size <= 100 := s1 _ (getD_mem zEl el j Om);refine ⟨fun s hs => ?_, fun v => ?_, fun v => ?_, fun v => ?_⟩
  ·
   exact hput _ _ _ (elCells_put el j Om (s, 0, 0, 0)).1 hs
  ·
   exact hput _ _ _ (elCells_put el j Om (ByteArray.empty, v, 0, 0)).2.1 hold
  ·
   exact hput _ _ _ (elCells_put el j Om (ByteArray.empty, 0, v, 0)).2.2.1 hold
  ·
   exact hput _ _ _ (elCells_put el j Om (ByteArray.empty, 0, 0, v)).2.2.2 hold
theorem CB.setL (F : CB R w W g b A n c k l κ EA en ec LA ln lc q0 q1 q2 q3) (h1 : 1 <= ln) : ∃ z, LA = some ⟨z, 0, none⟩ /\ z < W.heap.size /\ z ≠ b /\ (∀ i, W.frozen? ⟨z, i, none⟩ = false) /\ (∀ i, i < ln -> ∃ v, W.cell? ⟨z, i, none⟩ = some v) /\ ∀ (j : Nat) (v : Int), CB R w (W.setCell ⟨z, j, none⟩ (.int .i64 v)) g b A n c k l κ EA en ec LA ln lc q0 q1 q2 q3 := by
 obtain ⟨el, o1, s1⟩ := F.oE;obtain ⟨ll, o2⟩ := F.oL;obtain ⟨z, rfl, hz1, hz2⟩ := o2.form_ h1;have hzb : z ≠ b := fun e => F.nL (by rw [e]; rfl)
 refine ⟨z, rfl, hz2, hzb, fun i => o2.frozen_ i, fun i hi => ⟨_, o2.cell_ i hi⟩, fun j v => ?_⟩;obtain ⟨f1, f2, f3, f4⟩ := F.grown (gSetM W z j (.int .i64 v)) (fun x hx => by injection hx with hx; subst hx; exact ⟨hz1, hzb, F.kL z rfl⟩);exact ⟨f1, f2, F.hr, F.hg, f3, f4, ⟨el, Ow.kept o1 (gSetM W z j _) F.ne, s1⟩, ⟨_, (o2.stored_ j v).1⟩, F.ne, F.nE, F.nL, F.kE, F.kL, F.kb⟩
theorem CB.new (hX : Cx R W g A n c k l) (gr : w.grownBy W (some g)) (hg : g < w.heap.size) (hC : CdO w.heap.size W EA en ec LA ln lc) : CB R w (W.alloc (oC EA en ec LA ln lc q0 q1 q2 q3)) g W.heap.size A n c k l k0 EA en ec LA ln lc q0 q1 q2 q3 := by
 obtain ⟨⟨el, o1, s1⟩, ⟨ll, o2⟩, hne, h1, h2⟩ := hC;have hB := bAlloc (Below.refl W.heap.size W) (oC EA en ec LA ln lc q0 q1 q2 q3);exact ⟨hX.below hB, gr.trans (grownBy_of_below hB), gr.size, hg, heap_alloc_new W _, Th.k0_, ⟨el, Ow.below o1 hB, s1⟩, ⟨ll, o2.below hB⟩, hne, fun e => by have := (Ow.blk o1 e).2; omega, fun e => by have := (o2.blk e).2; omega, fun _ _ => rfl, fun _ _ => rfl, rfl⟩
theorem CB.toPC {w0 : World} {me ml : Nat} (F : CB R w W g b A n c k l κ EA en ec LA ln lc q0 q1 q2 q3) (gg : w0.grownBy w (some g)) (hsz : w0.heap.size + 1 <= w.heap.size) (hgw : g < w0.heap.size) (hk : k <= k') (h1 : me <= en) (h2 : ml <= ln) (h3 : en <= 100) (h4 : ln <= 10 - ml) :
  RetPC R w0 g A n c k' l me ml (.returned (.agg #[.slice EA en ec, .slice LA ln lc, .int .i64 q0, .int .i64 q1, .int .i64 q2, .int .i64 q3])) ((((((W.setCell ⟨w0.heap.size, 0, none⟩ (.slice EA en ec)).setCell ⟨w0.heap.size, 1, none⟩ (.slice LA ln lc)).setCell ⟨w0.heap.size, 2, none⟩ (.int .i64 q0)).setCell ⟨w0.heap.size, 3, none⟩ (.int .i64 q1)).setCell ⟨w0.heap.size, 4, none⟩ (.int .i64 q2)).setCell ⟨w0.heap.size, 5, none⟩ (.int .i64 q3)) := by
 have hr := F.hr;have hg := F.hg;obtain ⟨el, o1, s1⟩ := F.oE;obtain ⟨ll, o2⟩ := F.oL;have hle := F.cx.le;have s2 : ∀ (U : World) (j : Nat) (v : Value), Ow 112 4 w.heap.size U EA en ec (elCells el) -> Ow 112 4 w.heap.size (U.setCell ⟨w0.heap.size, j, none⟩ v) EA en ec (elCells el) := fun U j v o => Ow.kept o (gSetM U _ j v) (.inr fun e => by have := (Ow.blk o e).1; omega)
 refine ⟨EA, en, ec, LA, ln, lc, q0, q1, q2, q3, rfl, ((((((F.cx.set Om Om 0 _).set Om Om 1 _).set Om Om 2 _).set Om Om 3 _).set Om Om 4 _).set Om Om 5 _).mono hk, grow_set (grow_set (grow_set (grow_set (grow_set (grow_set (gg.trans F.gr) (Nat.le_refl _) 0 _) (Nat.le_refl _) 1 _) (Nat.le_refl _) 2 _) (Nat.le_refl _) 3 _) (Nat.le_refl _) 4 _) (Nat.le_refl _) 5 _, ⟨⟨el, ?_, s1⟩, ⟨ll, ?_⟩, F.ne, h3, Om⟩, h1, h2, h4⟩
 ·
  exact Ow.mono (s2 _ _ _ (s2 _ _ _ (s2 _ _ _ (s2 _ _ _ (s2 _ _ _ (s2 _ _ _ o1)))))) Om
 ·
  exact ((((((o2.setLow Om).setLow Om).setLow Om).setLow Om).setLow Om).setLow Om).mono Om
end
def LitR (W : World) (g x m : Nat) (L : List Int) : Prop := RdI W (some ⟨x, 0, none⟩) m L /\ g < x
theorem LitR.mk (hg : g < W.heap.size) (L : List Int) (m : Nat) (hm : m = L.length) (hl : m <= 1000) (cs : Array Value) (hcs : cs.toList = L.map (Value.int .i64)) : LitR (W.alloc (.cells cs 3)) g W.heap.size m L := hm ▸ ⟨int_lit L (by simp only [maxLen]; omega) cs hcs, hg⟩
theorem LitR.step {W' : World} (h : LitR W g x m L) (hg : W.grownBy W' (some g)) : LitR W' g x m L := ⟨RdI.keptR h.1 hg (fun z hz e => by have := h.2; simp [blkOf] at hz; injection e with e; omega), h.2⟩
theorem LitR.drew (h : LitR W g x m L) : LitR W.drew g x m L := h.step (grownBy_of_below (bDrew bR))
theorem LitR.among {R : World} {n c k : Nat} {A : OA} {l : List Int} (hL : LitR W g x m L) (h : Cx R W g A n c k l) (hk : k <= 1099511627000) (hm1 : 1 <= m) (hm2 : m <= 1000) (d : Nat) : Calls Tryz.prog 73 #[.pointer (some ⟨g, 0, none⟩), .slice (some ⟨x, 0, none⟩) m d] W (RetAl R W g A n c (k + 2) l L) := by
 refine (among_cx h m d L hk hL.1 hL.2 hm1 Om).mono ?_;rintro e w' ⟨r, hr, he, hC, hg⟩;exact ⟨r, hr, he, h.grow hC hg, hg⟩
theorem pointsCode_any {R : World} {n c k : Nat} {A : OA} {l : List Int} (h : Cx R w g A n c k l) (hk : k <= 900000) :
  Calls Tryz.prog 144 #[.pointer (some ⟨g, 0, none⟩)] w (RetPC R w g A n c (k + 1000) l 1 5) := by
 have hgl := h.cur.lt;have h0 := h.below (bAlloc (Below.refl _ w) zCode);have z0 := heap_alloc_new w zCode;have gg0 := World.grownBy_alloc w zCode (some g);have hsz0 : (w.alloc zCode).heap.size = w.heap.size + 1 := by simp
 go_enter Tryz.func144, Tryz.ntmps144;simp only [zCode] at h0 z0 gg0 hsz0;go_wp2_with fail
 generalize w.alloc (oC none 0 0 none 0 0 0 0 0 0) = w1 at *;refine (pick_cx h0 3 Om Om Om).mono ?_;intro e w2 hp;obtain ⟨r2, _, rfl, h2, g2⟩ := h0.pick hp;clear hp;go_wp2_with fail
 refine (among_lit h2 Om [0, 10, 20] 3 _ rfl rfl Om Om #[.int .i64 0, .int .i64 10, .int .i64 20] rfl 3).mono ?_;intro e w3 hp;obtain ⟨r3, _, rfl, h3, g3⟩ := RetAl.out hp;clear hp;go_wp2_with fail
 refine (among_lit h3 Om [50, 70, 80, 100] 4 _ rfl rfl Om Om #[.int .i64 50, .int .i64 70, .int .i64 80, .int .i64 100] rfl 4).mono ?_;intro e w4 hp;obtain ⟨r4, _, rfl, h4, g4⟩ := RetAl.out hp;clear hp;go_wp2_with fail
 refine (among_lit h4 Om [0, 100, 500] 3 _ rfl rfl Om Om #[.int .i64 0, .int .i64 100, .int .i64 500] rfl 3).mono ?_;intro e w5 hp;obtain ⟨r5, _, rfl, h5, g5⟩ := RetAl.out hp;clear hp;go_wp2_with fail
 have F0 := CB.new (EA := none) (en := 0) (ec := 0) (LA := none) (ln := 0) (lc := 0) (q0 := 1 + r2) (q1 := r3) (q2 := r4) (q3 := r5) h5 (((g2.trans g3).trans g4).trans g5) Om ⟨⟨[], Ow.nil_, fun x hx => by cases hx⟩, ⟨[], OwI.nil_⟩, .inl rfl, Om, Om⟩;clear h0 h2 h3 h4 h5 g2 g3 g4 g5;generalize 1 + r2 = q0 at *;generalize w5.alloc (oC none 0 0 none 0 0 q0 r3 r4 r5) = W0 at *;generalize w5.heap.size = b at *
 go_loopw [4] (fun i wr => ∃ (j : Nat) (LA : OA) (lc : Nat), j <= 5 /\ i = .int .i64 j /\ CB R w1 wr g b A n c (k + 8 + 2 * j) l k0 none 0 0 LA j lc q0 r3 r4 r5) (fun i _ => 5 - (intOf i).toNat)
 case atStart => exact ⟨0, none, 0, Om, rfl, F0⟩
 case round =>
  exact Nonempty.elim (α := type_of% ?k3) (letI i : Nonempty (type_of% ?k3) := ⟨by
   clear F0;obtain ⟨j, LA, lc, hj, rfl, F⟩ := hrel;by_cases hlt5 : j < 5
   ·
    have hltI : (j : Int) < 5 := Om;have hj1 : j + 1 <= 1099511627776 := Om;have ca := among_litD F.cx Om [0, 1, 2, 3, 7, 9] 6 wr.heap.size rfl rfl Om Om #[.int .i64 0, .int .i64 1, .int .i64 2, .int .i64 3, .int .i64 7, .int .i64 9] rfl 6;obtain ⟨⟨c0, c1, c2, c3, c4, c5⟩, f0, f1, f2, f3, f4, f5⟩ := F.cells;have hlt := F.lt_;go_upto_region 5 with fail
    go_region_law (first | (go_simp; go_at_call 73; with_reducible refine ca.mono ?_; intro e w9 hp; obtain ⟨r, hr, rfl, h9, g9⟩ := RetAl.out hp; have F9 := F.step h9 g9; obtain ⟨⟨d0, d1, d2, d3, d4, d5⟩, e0, e1, e2, e3, e4, e5⟩ := F9.cells; have hlt9 := F9.lt_; have F10 := F9.below (bAlloc bR (.cells #[.int .i64 r] 3)); obtain ⟨ml, hml, hnext⟩ := F10.pushL) | (refine app_int rfl _ _ F10.le rfl rfl hj1 rfl hml (newI _ r) ?_; intro A2 c2' w11 ho hg hd; obtain ⟨hz7, F11⟩ := hnext A2 c2' w11 _ ho hg hd; obtain ⟨⟨y0, y1, y2, y3, y4, y5⟩, x0, x1, x2, x3, x4, x5⟩ := blk6 hz7; have hlt7 := (Array.getElem?_eq_some_iff.1 hz7).1))
    all_goals
     clear hml hnext ho hg hd hz7 y0 y1 y2 y3 y4 y5 x0 x1 x2 x3 x4 x5 hlt7 d0 d1 d2 d3 d4 d5 e0 e1 e2 e3 e4 e5 hlt9 F9 F10 h9 g9 c0 c1 c2 c3 c4 c5 f0 f1 f2 f3 f4 f5 hlt ca F;generalize w11.setCell ⟨b, 1, none⟩ (.slice A2 (j + 1) c2') = w12 at *;go_wp2;go_roundw
     case rel => exact ⟨j + 1, A2, c2', Om, by go_num, F11.mono Om⟩
     case measure => simp [intOf]; omega
   ·
    obtain rfl : j = 5 := Om;go_wp2_with fail
    refine (elementNames_any wr).mono ?_;rintro e w6 ⟨rfl, x, rfl, oN⟩;have hB6 := ext_below wr x;obtain ⟨κ1, hx1, T1, S1, _⟩ := (F.th.below hB6).upS (s := wr.heap.size) (oN.mono F.le) elNames_small Om (fun z hz => (oN.blk hz).1);have F6 := F.withK hB6 T1 hx1;clear F oN T1 hx1 hB6;generalize ext wr x = W6 at *;generalize wr.heap.size = nb at *;go_wp2_with fail
    go_loopw [5, 6, 36] (fun _ _ i wr => ∃ (j : Nat) (EA : OA) (en ec : Nat), j <= 24 /\ i = .int .i64 j /\ en <= j /\ (8 <= j -> 1 <= en) /\ CB R w1 wr g b A n c (k + 20 + 10 * j) l κ1 EA en ec LA 5 lc q0 r3 r4 r5) (fun _ _ i _ => 24 - (intOf i).toNat)
    case atStart => exact ⟨0, none, 0, 0, Om, rfl, Om, fun h => by omega, F6.mono Om⟩
    case round =>
     exact Nonempty.elim (α := type_of% ?k2) (letI i : Nonempty (type_of% ?k2) := ⟨by
      clear F6;obtain ⟨j, EA, en, ec, hj, rfl, hen, he8, F⟩ := hrel;by_cases hlt24 : j < 24
      ·
       have hltI : (j : Int) < 24 := Om;obtain ⟨_, nl, oN, sN⟩ := S1.strs F.th;have hcN := oN.cell_ j hlt24;have hlN := (oN.blk rfl).2;have hsN : (nl[j]?.getD ByteArray.empty).size <= 100 := sN _ (getD_mem ByteArray.empty nl j (by rw [oN.len]; exact hlt24));generalize nl[j]?.getD ByteArray.empty = s at *;clear oN sN;go_upto_region 9 with fail
       go_cut [46] from 41 to 46 (fun v wx => ∃ bv : Bool, v = .bool bv /\ (bv = false -> j ≠ 7) /\ CB R w1 wx g b A n c (k + 20 + 10 * j + 2) l κ1 EA en ec LA 5 lc q0 r3 r4 r5)
       case first =>
        go_wp2_with fail
        refine (one_cx F.cx 3 Om Om Om).mono ?_;rintro e w7 ⟨bo, rfl, hC7, g7⟩;have F7 := F.step (F.cx.grow hC7 g7) g7;clear F hC7 g7 hcN hlN
        cases bo
        ·
         go_wp2;go_meet;exact ⟨(j : Int) == 7, rfl, (fun h e => by subst e; simp at h), F7⟩
        ·
         go_wp2;go_meet;exact ⟨true, rfl, (fun h => by cases h), F7⟩
       case rest =>
        obtain ⟨bv, rfl, hbv, F7⟩ := hcut;clear F hcN hlN
        cases bv
        ·
         have hj7 := hbv rfl;go_wp2;go_roundw
         case rel => exact ⟨j + 1, EA, en, ec, Om, by go_num, Om, fun h => he8 Om, F7.mono Om⟩
         case measure => simp [intOf]; omega
        ·
         have hen1 : en + 1 <= 1099511627776 := Om;obtain ⟨⟨c0, c1, c2, c3, c4, c5⟩, f0, f1, f2, f3, f4, f5⟩ := F7.cells;have hlt := F7.lt_;have hgw7 := F7.cx.cur.lt;go_upto_region 10 with fail
         go_region_law (first | (go_simp; go_at_call 56; first | (with_reducible refine (pick_cx (F7.drew).cx 5 Om Om Om).mono ?_; intro e w8 hp; obtain ⟨v8, _, rfl, h8, g8⟩ := (F7.drew).cx.pick hp; have F8 := (F7.drew).step h8 g8; obtain ⟨⟨da0, da1, da2, da3, da4, da5⟩, eb0, eb1, eb2, eb3, eb4, eb5⟩ := F8.cells; have hlF8 := F8.lt_) | (with_reducible refine (pick_cx ((F7.below (bAlloc bR (.cells #[.int .i64 1, .int .i64 50, .int .i64 130, .int .i64 420, .int .i64 800, .int .i64 1105, .int .i64 2000] 3))).drew).cx 5 Om Om Om).mono ?_; intro e w8 hp; obtain ⟨v8, _, rfl, h8, g8⟩ := ((F7.below (bAlloc bR (.cells #[.int .i64 1, .int .i64 50, .int .i64 130, .int .i64 420, .int .i64 800, .int .i64 1105, .int .i64 2000] 3))).drew).cx.pick hp; have F8 := ((F7.below (bAlloc bR (.cells #[.int .i64 1, .int .i64 50, .int .i64 130, .int .i64 420, .int .i64 800, .int .i64 1105, .int .i64 2000] 3))).drew).step h8 g8; have RL8 := (LitR.mk hgw7 [1, 50, 130, 420, 800, 1105, 2000] 7 rfl Om #[.int .i64 1, .int .i64 50, .int .i64 130, .int .i64 420, .int .i64 800, .int .i64 1105, .int .i64 2000] rfl).drew.step g8; obtain ⟨⟨da0, da1, da2, da3, da4, da5⟩, eb0, eb1, eb2, eb3, eb4, eb5⟩ := F8.cells; have hlF8 := F8.lt_) | (with_reducible refine (pick_cx (F8).cx 5 Om Om Om).mono ?_; intro e w9 hp; obtain ⟨v9, _, rfl, h9, g9⟩ := (F8).cx.pick hp; have F9 := (F8).step h9 g9; (try have RL9 := RL8.step g9); obtain ⟨⟨ta0, ta1, ta2, ta3, ta4, ta5⟩, ub0, ub1, ub2, ub3, ub4, ub5⟩ := F9.cells; have hlF9 := F9.lt_) | (with_reducible refine (pick_cx (F8.below (bAlloc bR (.cells #[.int .i64 1, .int .i64 50, .int .i64 130, .int .i64 420, .int .i64 800, .int .i64 1105, .int .i64 2000] 3))).cx 5 Om Om Om).mono ?_; intro e w9 hp; obtain ⟨v9, _, rfl, h9, g9⟩ := (F8.below (bAlloc bR (.cells #[.int .i64 1, .int .i64 50, .int .i64 130, .int .i64 420, .int .i64 800, .int .i64 1105, .int .i64 2000] 3))).cx.pick hp; have F9 := (F8.below (bAlloc bR (.cells #[.int .i64 1, .int .i64 50, .int .i64 130, .int .i64 420, .int .i64 800, .int .i64 1105, .int .i64 2000] 3))).step h9 g9; have RL9 := (LitR.mk F8.cx.cur.lt [1, 50, 130, 420, 800, 1105, 2000] 7 rfl Om #[.int .i64 1, .int .i64 50, .int .i64 130, .int .i64 420, .int .i64 800, .int .i64 1105, .int .i64 2000] rfl).step g9; obtain ⟨⟨ta0, ta1, ta2, ta3, ta4, ta5⟩, ub0, ub1, ub2, ub3, ub4, ub5⟩ := F9.cells; have hlF9 := F9.lt_)) | (go_simp; go_at_call 73; first | (with_reducible refine (among_lit F9.cx Om [1, 50, 130, 420, 800, 1105, 2000] 7 _ rfl rfl Om Om #[.int .i64 1, .int .i64 50, .int .i64 130, .int .i64 420, .int .i64 800, .int .i64 1105, .int .i64 2000] rfl 7).mono ?_; intro e w10 hp; obtain ⟨r, hr, rfl, h10, g10⟩ := RetAl.out hp; have F10 := F9.step h10 g10; obtain ⟨⟨sa0, sa1, sa2, sa3, sa4, sa5⟩, zb0, zb1, zb2, zb3, zb4, zb5⟩ := F10.cells; have hlF10 := F10.lt_; have F11 := F10.below (bAlloc bR (.cells #[.string s, .int .i64 v8, .int .i64 v9, .int .i64 r] 112)); obtain ⟨el, hel, hnext⟩ := F11.pushE) | (with_reducible refine (RL9.among F9.cx Om Om Om 7).mono ?_; intro e w10 hp; obtain ⟨r, hr, rfl, h10, g10⟩ := RetAl.out hp; have F10 := F9.step h10 g10; obtain ⟨⟨sa0, sa1, sa2, sa3, sa4, sa5⟩, zb0, zb1, zb2, zb3, zb4, zb5⟩ := F10.cells; have hlF10 := F10.lt_; have F11 := F10.below (bAlloc bR (.cells #[.string s, .int .i64 v8, .int .i64 v9, .int .i64 r] 112)); obtain ⟨el, hel, hnext⟩ := F11.pushE)) | (refine app_el rfl _ _ F11.le rfl rfl hen1 rfl hel (newEl _ (s, v8, v9, r)) ?_; intro A2 c2' w11 ho hg hd; obtain ⟨hz7, F12⟩ := hnext A2 c2' w11 (s, v8, v9, r) hsN ho hg hd; obtain ⟨⟨y0, y1, y2, y3, y4, y5⟩, x0, x1, x2, x3, x4, x5⟩ := blk6 hz7; have hlt7 := (Array.getElem?_eq_some_iff.1 hz7).1))
         all_goals
          have F := F12;clear hnext ho hg hd hz7 hel F12 F11;generalize w11.setCell ⟨b, 0, none⟩ (.slice A2 (en + 1) c2') = w12 at *;go_wp2;go_roundw
          case rel => exact ⟨j + 1, A2, en + 1, c2', Om, by go_num, Om, fun _ => by omega, F.mono Om⟩
          case measure => simp [intOf]; omega
      ·
       obtain rfl : j = 24 := Om;have he1 := he8 Om;go_wp2_with fail
       refine (one_cx F.cx 24 Om Om Om).mono ?_;rintro e w7 ⟨bo, rfl, hC7, g7⟩;have F7 := F.step (F.cx.grow hC7 g7) g7;clear F hC7 g7
       cases bo
       ·
        have F := F7;clear F7;obtain ⟨⟨c0, c1, c2, c3, c4, c5⟩, f0, f1, f2, f3, f4, f5⟩ := F.cells;have hlt := F.lt_;have zz := heap_kept z0 F.gr Om;obtain ⟨⟨y0, y1, y2, y3, y4, y5⟩, x0, x1, x2, x3, x4, x5⟩ := blk6 zz;have hlr := (Array.getElem?_eq_some_iff.1 zz).1;go_wp2;refine bodyPost_ret (v := .agg #[.slice EA en ec, .slice LA 5 lc, .int .i64 q0, .int .i64 r3, .int .i64 r4, .int .i64 r5]) (by simp [results, Tryz.results144, go_sem, c0, c1, c2, c3, c4, c5, y0, y1, y2, y3, y4, y5, x0, x1, x2, x3, x4, x5, hlr]) rfl ?_;exact F.toPC gg0 Om hgl Om Om Om Om Om
       ·
        have F8 := F7.nilE;obtain ⟨⟨c0, c1, c2, c3, c4, c5⟩, f0, f1, f2, f3, f4, f5⟩ := F7.cells;have hlt := F7.lt_;go_upto_region 14 with fail;clear c0 c1 c2 c3 c4 c5 f0 f1 f2 f3 f4 f5 hlt F7;generalize w7.setCell ⟨b, 0, none⟩ (.slice none 0 0) = w8 at *;go_wp2_with fail
        refine (elementNames_any w8).mono ?_;rintro e w6 ⟨rfl, x, rfl, oN⟩;have hB6 := ext_below w8 x;obtain ⟨κ2, hx1, T1, S2, _⟩ := (F8.th.below hB6).upS (s := w8.heap.size) (oN.mono F8.le) elNames_small Om (fun z hz => (oN.blk hz).1);have F6 := F8.withK hB6 T1 hx1;clear F8 oN T1 hx1 hB6;generalize ext w8 x = W6 at *;generalize w8.heap.size = nb2 at *;go_wp2_with fail
        go_loopw [8, 67] (fun _ i wr => ∃ (j : Nat) (EA : OA) (ec : Nat), j <= 24 /\ i = .int .i64 j /\ CB R w1 wr g b A n c (k + 300 + 10 * j) l κ2 EA j ec LA 5 lc q0 r3 r4 r5) (fun _ i _ => 24 - (intOf i).toNat)
        case atStart => exact ⟨0, none, 0, Om, rfl, F6.mono Om⟩
        case round =>
         exact Nonempty.elim (α := type_of% ?k1) (letI i : Nonempty (type_of% ?k1) := ⟨by
          clear F6;obtain ⟨j, EA, ec, hj, rfl, F⟩ := hrel;by_cases hlt24 : j < 24
          ·
           have hltI : (j : Int) < 24 := Om;obtain ⟨_, nl, oN, sN⟩ := S2.strs F.th;have hcN := oN.cell_ j hlt24;have hlN := (oN.blk rfl).2;have hsN : (nl[j]?.getD ByteArray.empty).size <= 100 := sN _ (getD_mem ByteArray.empty nl j (by rw [oN.len]; exact hlt24));generalize nl[j]?.getD ByteArray.empty = s at *;clear oN sN;have hen1 : j + 1 <= 1099511627776 := Om;obtain ⟨⟨c0, c1, c2, c3, c4, c5⟩, f0, f1, f2, f3, f4, f5⟩ := F.cells;have hlt := F.lt_;go_upto_region 17 with fail
           go_region_law (first | (go_simp; go_at_call 56; first | (with_reducible refine (pick_cx (F.drew).cx 2 Om Om Om).mono ?_; intro e w8 hp; obtain ⟨v8, _, rfl, h8, g8⟩ := (F.drew).cx.pick hp; have F8 := (F.drew).step h8 g8; obtain ⟨⟨da0, da1, da2, da3, da4, da5⟩, eb0, eb1, eb2, eb3, eb4, eb5⟩ := F8.cells; have hlF8 := F8.lt_) | (with_reducible refine (pick_cx (F8).cx 900 Om Om Om).mono ?_; intro e w9 hp; obtain ⟨v9, _, rfl, h9, g9⟩ := (F8).cx.pick hp; have F9 := (F8).step h9 g9; obtain ⟨⟨ta0, ta1, ta2, ta3, ta4, ta5⟩, ub0, ub1, ub2, ub3, ub4, ub5⟩ := F9.cells; have hlF9 := F9.lt_; have F11 := F9.below (bAlloc bR (.cells #[.string s, .int .i64 v8, .int .i64 0, .int .i64 (IntKind.i64.wrap (100 + v9))] 112)); obtain ⟨el, hel, hnext⟩ := F11.pushE)) | (refine app_el rfl _ _ F11.le rfl rfl hen1 rfl hel (newEl _ (s, v8, 0, IntKind.i64.wrap (100 + v9))) ?_; intro A2 c2' w11 ho hg hd; obtain ⟨hz7, F12⟩ := hnext A2 c2' w11 (s, v8, 0, IntKind.i64.wrap (100 + v9)) hsN ho hg hd; obtain ⟨⟨y0, y1, y2, y3, y4, y5⟩, x0, x1, x2, x3, x4, x5⟩ := blk6 hz7; have hlt7 := (Array.getElem?_eq_some_iff.1 hz7).1))
           all_goals
            have F := F12;clear hnext ho hg hd hz7 hel F12 F11;generalize w11.setCell ⟨b, 0, none⟩ (.slice A2 (j + 1) c2') = w12 at *;go_wp2;go_roundw
            case rel => exact ⟨j + 1, A2, c2', Om, by go_num, F.mono Om⟩
            case measure => simp [intOf]; omega
          ·
           obtain rfl : j = 24 := Om;obtain ⟨⟨c0, c1, c2, c3, c4, c5⟩, f0, f1, f2, f3, f4, f5⟩ := F.cells;have hlt := F.lt_;have zz := heap_kept z0 F.gr Om;obtain ⟨⟨y0, y1, y2, y3, y4, y5⟩, x0, x1, x2, x3, x4, x5⟩ := blk6 zz;have hlr := (Array.getElem?_eq_some_iff.1 zz).1;go_wp2;refine bodyPost_ret (v := .agg #[.slice EA 24 ec, .slice LA 5 lc, .int .i64 q0, .int .i64 r3, .int .i64 r4, .int .i64 r5]) (by simp [results, Tryz.results144, go_sem, c0, c1, c2, c3, c4, c5, y0, y1, y2, y3, y4, y5, x0, x1, x2, x3, x4, x5, hlr]) rfl ?_;exact F.toPC gg0 Om hgl Om Om Om Om Om
          ⟩; by exact inferInstanceAs (Nonempty _)) (fun h => h)
      ⟩; by exact inferInstanceAs (Nonempty _)) (fun h => h)
   ⟩; by exact inferInstanceAs (Nonempty _)) (fun h => h)
end Go.Proofs.YtlfhhkgleapamaaGreatDoor
