/- What the reference draws for the law on deviations: marks, mostly valid ones, and the drawing functions. Conditions: none. -/
import Derived.Test.YtlfhhkgleapamaaGreatDoorRDraw18
import Derived.Test.YtlfhhkgleapamaaGreatDoorRBase34
import Derived.StillTailTactics
import Derived.Deep.CutBlock
import Derived.Deep.OwnRows
set_option linter.unusedVariables false
set_option linter.unusedSimpArgs false
set_option maxRecDepth 100000
set_option maxHeartbeats 16000000
namespace Go.Proofs.YtlfhhkgleapamaaGreatDoor
open Go.RowKit
variable {LL : List Int} {b d i j m x : Nat}
def okB (r gm z : Nat) : Prop := r < z /\ z ≠ gm
structure MA (R w W : World) (g r gm : Nat) (A : OA) (n c k : Nat) (l : List Int) (GA : OA) (gn gc : Nat) (CA : OA) (cc : Nat) (gg kk : List (List Int)) (mid hi q : Nat) : Prop where
 cx : Cx R W g A n c k l
 gr : w.grownBy W (some g)
 hr : w.heap.size = r
 hg : g < r
 hz : W.heap[r]? = some zMarks
 hm : W.heap[gm]? = some (.cells #[.slice GA gn gc, .slice CA 3 cc] 31)
 tg : OwMB (r + 1) mid W GA gn gc gg
 tc : OwMB mid hi W CA 3 cc kk
 hmid : r + 1 <= mid /\ mid <= hi /\ hi <= gm /\ gm < W.heap.size
 hN : gn <= 15
 hq : 3 <= q /\ q <= 9
 rg : ∀ j, j < gn -> (gg[j]?.getD []).length = q
 rc : ∀ j, j < 3 -> (kk[j]?.getD []).length = q
def FS (R w W : World) (g r gm : Nat) (A : OA) (n c k : Nat) (l : List Int) : Prop := ∃ (A1 : OA) (n1 c1 : Nat) (G : List (List Int)) (A2 : OA) (n2 c2 : Nat) (K : List (List Int)), Cx R W g A n c k l /\ w.grownBy W (some g) /\ W.heap[r]? = some zMarks /\ W.heap[gm]? = some (.cells #[.slice A1 n1 c1, .slice A2 n2 c2] 31) /\ Tr (okB r gm) W A1 n1 c1 G /\ Tr (okB r gm) W A2 n2 c2 K /\ (n1 <= 15 /\ n2 <= 4) /\ (∀ j, j < n1 -> (G[j]?.getD []).length <= 10) /\ ∀ j, j < n2 -> (K[j]?.getD []).length <= 10
section
variable {R w W W' : World} {g r gm n c k k' : Nat} {A : OA} {l : List Int} {GA : OA} {gn gc : Nat} {CA : OA} {cc : Nat} {gg kk : List (List Int)} {mid hi q : Nat}
theorem MA.step (F : MA R w W g r gm A n c k l GA gn gc CA cc gg kk mid hi q) (hX : Cx R W' g A n c k' l) (hg : W.grownBy W' (some g)) : MA R w W' g r gm A n c k' l GA gn gc CA cc gg kk mid hi q := by
 have h1 := F.hmid;have h2 := F.hg;exact ⟨hX, F.gr.trans hg, F.hr, F.hg, heap_kept F.hz hg Om, heap_kept F.hm hg Om, F.tg.kept hg (.inl Om), F.tc.kept hg (.inl Om), ⟨h1.1, h1.2.1, h1.2.2.1, Nat.lt_of_lt_of_le h1.2.2.2 hg.size⟩, F.hN, F.hq, F.rg, F.rc⟩
theorem MA.below (F : MA R w W g r gm A n c k l GA gn gc CA cc gg kk mid hi q) (hb : Below W.heap.size W W') : MA R w W' g r gm A n c k l GA gn gc CA cc gg kk mid hi q := F.step (F.cx.below hb) (grownBy_of_below hb)
theorem MA.drew (F : MA R w W g r gm A n c k l GA gn gc CA cc gg kk mid hi q) : MA R w W.drew g r gm A n c k l GA gn gc CA cc gg kk mid hi q := F.below (bDrew bR)
theorem MA.cells (F : MA R w W g r gm A n c k l GA gn gc CA cc gg kk mid hi q) : (W.cell? ⟨gm, 0, none⟩ = some (.slice GA gn gc) /\ W.cell? ⟨gm, 1, none⟩ = some (.slice CA 3 cc)) /\ W.frozen? ⟨gm, 0, none⟩ = false /\ W.frozen? ⟨gm, 1, none⟩ = false := blk2 F.hm
theorem MA.okG (F : MA R w W g r gm A n c k l GA gn gc CA cc gg kk mid hi q) : ∀ z, r + 1 <= z -> z < mid -> okB r gm z := fun z h1 h2 => by have := F.hmid; exact ⟨Om, Om⟩
theorem MA.okC (F : MA R w W g r gm A n c k l GA gn gc CA cc gg kk mid hi q) : ∀ z, mid <= z -> z < hi -> okB r gm z := fun z h1 h2 => by have := F.hmid; exact ⟨Om, Om⟩
theorem MA.okN (F : MA R w W g r gm A n c k l GA gn gc CA cc gg kk mid hi q) : ∀ z, W.heap.size <= z -> okB r gm z := fun z h1 => by have := F.hmid; exact ⟨Om, Om⟩
theorem MA.trG (F : MA R w W g r gm A n c k l GA gn gc CA cc gg kk mid hi q) : Tr (okB r gm) W GA gn gc gg := F.tg.tr F.okG
theorem MA.trC (F : MA R w W g r gm A n c k l GA gn gc CA cc gg kk mid hi q) : Tr (okB r gm) W CA 3 cc kk := F.tc.tr F.okC
theorem MA.fs (F : MA R w W g r gm A n c k l GA gn gc CA cc gg kk mid hi q) : FS R w W g r gm A n c k l := by
 have hq := F.hq;exact ⟨_, _, _, _, _, _, _, _, F.cx, F.gr, F.hz, F.hm, F.trG, F.trC, ⟨F.hN, Om⟩, fun j hj => by rw [F.rg j hj]; omega, fun j hj => by rw [F.rc j hj]; omega⟩
theorem FS.mono (F : FS R w W g r gm A n c k l) (hk : k <= k') : FS R w W g r gm A n c k' l := by
 obtain ⟨A1, n1, c1, G, A2, n2, c2, K, h, hrest⟩ := F;exact ⟨A1, n1, c1, G, A2, n2, c2, K, h.mono hk, hrest⟩
theorem MA.rowsG (F : MA R w W g r gm A n c k l GA gn gc CA cc gg kk mid hi q) (h0 : 0 < gn) : ∃ (b : Nat) (rb rd : Nat -> Nat), GA = some ⟨b, 0, none⟩ /\ r + 1 <= b /\ b < mid /\ (∀ j, W.frozen? ⟨b, j, none⟩ = false) /\ ∀ j, j < gn -> W.cell? ⟨b, j, none⟩ = some (.slice (some ⟨rb j, 0, none⟩) q (rd j)) := by
 obtain ⟨g1, B, m, d, ⟨g2, g3, g4⟩, g5, g6⟩ := F.tg;obtain ⟨b, rfl, hb, hlt⟩ := g2.form_ h0;refine ⟨b, fun j => (blkOf (B j)).getD 0, d, rfl, hb, g5 b rfl, fun j => Ow.frozen_ g2 j, fun j hj => ?_⟩;have hm : m j = q := by rw [<- F.rg j hj]; exact (g3 j hj).1.len.symm
 have hq := F.hq;obtain ⟨z, hz, _⟩ := (g3 j hj).1.form_ Om;rw [Ow.cell_ g2 j Om];simp [hj, hm, hz, blkOf]
theorem MA.elemG (F : MA R w W g r gm A n c k l GA gn gc CA cc gg kk mid hi q) {bt : Nat} (hT : GA = some ⟨bt, 0, none⟩) (hi' : i < gn) (hrow : W.cell? ⟨bt, i, none⟩ = some (.slice (some ⟨b, 0, none⟩) m d)) (hj : j < q) :
  (∃ x, W.cell? ⟨b, j, none⟩ = some (.int .i64 x)) /\ W.frozen? ⟨b, j, none⟩ = false /\ b < W.heap.size /\ (b ≠ gm /\ b ≠ bt) /\ ∀ v : Int, FS R w (W.setCell ⟨b, j, none⟩ (.int .i64 v)) g r gm A n c k l := by
 obtain ⟨g', B0, m0, d0, e, hg', hcell, ho, hnew⟩ := F.tg.at_ i hi';rw [hT] at e;injection e with e;injection e with e;subst e;rw [hrow] at hcell;injection hcell with hcell;injection hcell with e1 e2 e3;subst e1 e2 e3;have hlen := ho.len;rw [F.rg i hi'] at hlen;have hbk := ho.blk (g := b) rfl;have h1 := F.hmid;have h2 := F.hg;have h3 := F.hr;have h4 := F.cx.le;have hq := F.hq;have hbm : b < mid /\ b ≠ bt := by
  obtain ⟨g1, B, m, d, ⟨g2, g3, g4⟩, g5, g6⟩ := F.tg;have hck := Ow.cell_ (hT ▸ g2) i Om;rw [hrow] at hck;simp [hi'] at hck;refine ⟨g6 i hi' b (by rw [<- hck.1]; rfl), fun e => ?_⟩;have := (g3 i hi').2;rw [<- hck.1, hT, e] at this
  rcases this with h | h
  ·
   cases h
  ·
   exact h rfl
 refine ⟨⟨_, ho.cell_ j Om⟩, ho.frozen_ j, hbk.2, ⟨Om, hbm.2⟩, fun v => ?_⟩;have hst := ho.stored_ j v;have hx := hnew _ _ hst.1 hst.2;have hs := cur_grown W b j (.int .i64 v);have hl : ∀ x, x < gn -> ((gg.set i ((gg[i]?.getD []).set j v))[x]?.getD []).length = q := fun x hx' => by
  by_cases e : x = i
  ·
   subst e;have hll := F.tg.1;simp [hll, hx'];have := F.rg x hx';rw [List.getElem?_eq_getElem Om] at this
   simpa using this
  ·
   rw [List.getElem?_set_ne (fun h => e h.symm)]; exact F.rg x hx'
 exact ⟨_, _, _, _, _, _, _, _, F.cx.set Om Om j _, grow_set F.gr Om j _, heap_kept F.hz hs Om, heap_kept F.hm hs Om, hx.1.tr F.okG, (F.tc.keptM hx.2 (.inl (Nat.le_refl _))).tr F.okC, ⟨F.hN, Om⟩, fun x hx' => by rw [hl x hx']; omega, fun x hx' => by rw [F.rc x hx']; omega⟩
theorem MA.rowsC (F : MA R w W g r gm A n c k l GA gn gc CA cc gg kk mid hi q) (h0 : 0 < 3) : ∃ (b : Nat) (rb rd : Nat -> Nat), CA = some ⟨b, 0, none⟩ /\ mid <= b /\ b < hi /\ (∀ j, W.frozen? ⟨b, j, none⟩ = false) /\ ∀ j, j < 3 -> W.cell? ⟨b, j, none⟩ = some (.slice (some ⟨rb j, 0, none⟩) q (rd j)) := by
 obtain ⟨g1, B, m, d, ⟨g2, g3, g4⟩, g5, g6⟩ := F.tc;obtain ⟨b, rfl, hb, hlt⟩ := g2.form_ h0;refine ⟨b, fun j => (blkOf (B j)).getD 0, d, rfl, hb, g5 b rfl, fun j => Ow.frozen_ g2 j, fun j hj => ?_⟩;have hm : m j = q := by rw [<- F.rc j hj]; exact (g3 j hj).1.len.symm
 have hq := F.hq;obtain ⟨z, hz, _⟩ := (g3 j hj).1.form_ Om;rw [Ow.cell_ g2 j Om];simp [hj, hm, hz, blkOf]
theorem MA.rowRdC (F : MA R w W g r gm A n c k l GA gn gc CA cc gg kk mid hi q) {bt : Nat} (hT : CA = some ⟨bt, 0, none⟩) (hi' : i < 3) (hrow : W.cell? ⟨bt, i, none⟩ = some (.slice (some ⟨b, 0, none⟩) m d)) : OwI (mid) W (some ⟨b, 0, none⟩) m d (kk[i]?.getD []) /\ m = q := by
 obtain ⟨g', B0, m0, d0, e, hg', hcell, ho, hnew⟩ := F.tc.at_ i hi';rw [hT] at e;injection e with e;injection e with e;subst e;rw [hrow] at hcell;injection hcell with hcell;injection hcell with e1 e2 e3;subst e1 e2 e3;exact ⟨ho, by rw [<- F.rc i hi']; exact ho.len.symm⟩
theorem MA.elemC (F : MA R w W g r gm A n c k l GA gn gc CA cc gg kk mid hi q) {bt : Nat} (hT : CA = some ⟨bt, 0, none⟩) (hi' : i < 3) (hrow : W.cell? ⟨bt, i, none⟩ = some (.slice (some ⟨b, 0, none⟩) m d)) (hj : j < q) :
  (∃ x, W.cell? ⟨b, j, none⟩ = some (.int .i64 x)) /\ W.frozen? ⟨b, j, none⟩ = false /\ b < W.heap.size /\ (b ≠ gm /\ b ≠ bt) /\ ∀ v : Int, FS R w (W.setCell ⟨b, j, none⟩ (.int .i64 v)) g r gm A n c k l := by
 obtain ⟨g', B0, m0, d0, e, hg', hcell, ho, hnew⟩ := F.tc.at_ i hi';rw [hT] at e;injection e with e;injection e with e;subst e;rw [hrow] at hcell;injection hcell with hcell;injection hcell with e1 e2 e3;subst e1 e2 e3;have hlen := ho.len;rw [F.rc i hi'] at hlen;have hbk := ho.blk (g := b) rfl;have h1 := F.hmid;have h2 := F.hg;have h3 := F.hr;have h4 := F.cx.le;have hq := F.hq;have hbm : b < hi /\ b ≠ bt := by
  obtain ⟨g1, B, m, d, ⟨g2, g3, g4⟩, g5, g6⟩ := F.tc;have hck := Ow.cell_ (hT ▸ g2) i Om;rw [hrow] at hck;simp [hi'] at hck;refine ⟨g6 i hi' b (by rw [<- hck.1]; rfl), fun e => ?_⟩;have := (g3 i hi').2;rw [<- hck.1, hT, e] at this
  rcases this with h | h
  ·
   cases h
  ·
   exact h rfl
 refine ⟨⟨_, ho.cell_ j Om⟩, ho.frozen_ j, hbk.2, ⟨Om, hbm.2⟩, fun v => ?_⟩;have hst := ho.stored_ j v;have hx := hnew _ _ hst.1 hst.2;have hs := cur_grown W b j (.int .i64 v);have hl : ∀ x, x < 3 -> ((kk.set i ((kk[i]?.getD []).set j v))[x]?.getD []).length = q := fun x hx' => by
  by_cases e : x = i
  ·
   subst e;have hll := F.tc.1;simp [hll, hx'];have := F.rc x hx';rw [List.getElem?_eq_getElem Om] at this
   simpa using this
  ·
   rw [List.getElem?_set_ne (fun h => e h.symm)]; exact F.rc x hx'
 exact ⟨_, _, _, _, _, _, _, _, F.cx.set Om Om j _, grow_set F.gr Om j _, heap_kept F.hz hs Om, heap_kept F.hm hs Om, (F.tg.keptM hx.2 (.inr (Nat.le_refl _))).tr F.okG, hx.1.tr F.okC, ⟨F.hN, Om⟩, fun x hx' => by rw [F.rg x hx']; omega, fun x hx' => by rw [hl x hx']; omega⟩
theorem MA.grow (F : MA R w W g r gm A n c k l GA gn gc CA cc gg kk mid hi q) {bt : Nat} {B0 : OA} (hT : GA = some ⟨bt, 0, none⟩) (hi' : i < gn) (hrow : W.cell? ⟨bt, i, none⟩ = some (.slice B0 m d)) :
  OwI R.heap.size W B0 m d (gg[i]?.getD []) /\ m = q /\ ∀ (W2 : World) (y : World) (A' : OA) (c' : Nat) (L : List Int), Below W.heap.size W W2 -> OwI R.heap.size (ext R y) A' (m + 1) c' L -> W2.grownBy (ext R y) (blkOf B0) -> (blkOf A' = blkOf B0 ∨ blkOf A' = some W2.heap.size) ->
   ((ext R y).cell? ⟨bt, i, none⟩ = some (.slice B0 m d) /\ (ext R y).frozen? ⟨bt, i, none⟩ = false /\ bt < (ext R y).heap.size /\ (ext R y).cell? ⟨gm, 0, none⟩ = some (.slice (some ⟨bt, 0, none⟩) gn gc) /\ gm < (ext R y).heap.size) /\ FS R w ((ext R y).setCell ⟨bt, i, none⟩ (.slice A' (m + 1) c')) g r gm A n c k l := by
 subst hT;obtain ⟨g', B0', m0, d0, e, hg', hcell, ho, hnew⟩ := F.tg.at_ i hi';injection e with e;injection e with e;subst e;rw [hrow] at hcell;injection hcell with hcell;injection hcell with e1 e2 e3;subst e1 e2 e3;have hlen := ho.len;rw [F.rg i hi'] at hlen;have h1 := F.hmid;have h2 := F.hg;have h3 := F.hr;have h4 := F.cx.le;have hq := F.hq;have hb0 : ∀ z, blkOf B0 = some z -> r + 1 <= z /\ z < mid := fun z hz => by
  refine ⟨(ho.blk hz).1, ?_⟩;obtain ⟨g1, B, m, d, ⟨g2, g3, g4⟩, g5, g6⟩ := F.tg;have hck := Ow.cell_ g2 i Om;rw [hrow] at hck;simp [hi'] at hck;exact g6 i hi' z (by rw [<- hck.1]; exact hz)
 refine ⟨ho.mono Om, hlen.symm, fun W2 y A' c' L hW2 hr' hg hd => ?_⟩;have hgW : W.grownBy (ext R y) (blkOf B0) := (grownBy_of_below (row := blkOf B0) hW2).trans hg;have hbt : bt < W.heap.size /\ r + 1 <= bt /\ bt < mid /\ some bt ≠ blkOf B0 /\ W.frozen? ⟨bt, i, none⟩ = false := by
  obtain ⟨g1, B, m, d, ⟨g2, g3, g4⟩, g5, g6⟩ := F.tg;have hck := Ow.cell_ g2 i Om;rw [hrow] at hck;simp [hi'] at hck;refine ⟨hg', (g2.blk (g := bt) rfl).1, g5 bt rfl, fun e => ?_, Ow.frozen_ g2 i⟩;have := (g3 i hi').2;rw [<- hck.1, <- e] at this
  rcases this with h | h
  ·
   cases h
  ·
   exact h rfl
 have hblk := hgW.block bt hbt.1 hbt.2.2.2.1;have hneg : ∀ x, x < r + 1 ∨ mid <= x -> blkOf B0 ≠ some x := fun x hx e => by have := hb0 x e; omega
 have hm1 := heap_row F.hm hgW (hneg _ Om);refine ⟨⟨(World.cell?_of_block hblk).trans hrow, ?_, Nat.lt_of_lt_of_le hbt.1 hgW.size, (blk2 hm1).1.1, Nat.lt_of_lt_of_le h1.2.2.2 hgW.size⟩, ?_⟩
 ·
  have : (ext R y).frozen? ⟨bt, i, none⟩ = W.frozen? ⟨bt, i, none⟩ := by simp only [World.frozen?, hblk]
  rw [this]; exact hbt.2.2.2.2
 have ht := F.tg.grow_row (S := okB r gm) hi' hrow hgW hr' (hd.imp id fun e => ⟨_, e, hW2.size⟩) F.okG F.okN;have hs := cur_grown (ext R y) bt i (.slice A' (m + 1) c');have htc := ((F.tc.keptM (Mid.of_grown (lo := r + 1) (hi := mid) hgW hb0) (.inl (Nat.le_refl _))).set (k := i) (v := .slice A' (m + 1) c') (g := bt) (.inl Om)).tr F.okC;have hX1 := F.cx.row hgW (hneg g Om) (fun b hb => by have := hb0 b hb; omega);have hG1 := grown_new F.gr hgW (fun b hb => by have := hb0 b hb; omega);refine ⟨_, _, _, _, _, _, _, _, hX1.set Om Om i _, grow_set hG1 Om i _, heap_kept (heap_row F.hz hgW (hneg _ Om)) hs Om, heap_kept (heap_row F.hm hgW (hneg _ Om)) hs Om, ht, htc, ⟨F.hN, Om⟩, fun x hx => ?_, fun x hx => by rw [F.rc x hx]; omega⟩;by_cases e : x = i
 ·
  subst e;have hll := F.tg.1;have hL : (gg.set x L)[x]?.getD [] = L := by simp [hll, hx]
  rw [hL, hr'.len]; omega
 ·
  rw [List.getElem?_set_ne (fun h => e h.symm), F.rg x hx]; omega
theorem MA.app (F : MA R w W g r gm A n c k l GA gn gc CA cc gg kk mid hi q) : ∃ bt xs B0 m0 d0, CA = some ⟨bt, 0, none⟩ /\ bt < W.heap.size /\ W.cell? ⟨bt, 0, none⟩ = some (.slice B0 m0 d0) /\ Ow 25 1 mid W CA 3 cc xs /\ R.heap.size <= mid /\ mid <= W.heap.size /\
  ∀ (W2 : World) (y : World) (A' : OA) (c' : Nat), Below W.heap.size W W2 -> Ow 25 1 mid (ext R y) A' (3 + 1) c' (xs ++ [.slice B0 m0 d0]) -> W2.grownBy (ext R y) (blkOf CA) -> (blkOf A' = blkOf CA ∨ blkOf A' = some W2.heap.size) ->
   ((ext R y).cell? ⟨gm, 1, none⟩ = some (.slice CA 3 cc) /\ (ext R y).frozen? ⟨gm, 1, none⟩ = false /\ gm < (ext R y).heap.size) /\ FS R w ((ext R y).setCell ⟨gm, 1, none⟩ (.slice A' (3 + 1) c')) g r gm A n c k l := by
 have h1 := F.hmid;have h2 := F.hg;have h3 := F.hr;have h4 := F.cx.le;have hq := F.hq;have hlen := F.tc.1;obtain ⟨bt, xs, B0, m0, d0, e, hbt, hc, hf, hxs, hnext⟩ := F.tc.push_own (S := okB r gm) Om F.okC F.okN;refine ⟨bt, xs, B0, m0, d0, e, hbt, hc, hxs, Om, Om, fun W2 y A' c' hW2 ho hg hd => ?_⟩;have hgW : W.grownBy (ext R y) (blkOf CA) := (grownBy_of_below (row := blkOf CA) hW2).trans hg;have hb0 : ∀ z, blkOf CA = some z -> mid <= z /\ z < hi := fun z hz => by
  refine ⟨(hxs.blk hz).1, ?_⟩;obtain ⟨g1, B, m, d, ⟨g2, g3, g4⟩, g5, g6⟩ := F.tc;exact g5 z hz
 have hneg : ∀ x, x < mid ∨ hi <= x -> blkOf CA ≠ some x := fun x hx e => by have := hb0 x e; omega
 have hm1 := heap_row F.hm hgW (hneg _ Om);obtain ⟨⟨_, f1⟩, _, f3⟩ := blk2 hm1;have hgs := hgW.size;refine ⟨⟨f1, f3, Om⟩, ?_⟩;have ht := hnext _ A' c' ho hgW (hd.imp id fun e => ⟨_, e, hW2.size⟩);have hs := cur_grown (ext R y) gm 1 (.slice A' (3 + 1) c');have htg := ((F.tg.keptM (Mid.of_grown (lo := mid) (hi := hi) hgW hb0) (.inr (Nat.le_refl _))).set (k := 1) (v := .slice A' (3 + 1) c') (g := gm) (.inr Om)).tr F.okG;have hX1 := F.cx.row hgW (hneg g Om) (fun b hb => by have := hb0 b hb; omega);have hG1 := grown_new F.gr hgW (fun b hb => by have := hb0 b hb; omega);refine ⟨_, _, _, _, _, _, _, _, hX1.set Om Om 1 _, grow_set hG1 Om 1 _, heap_kept (heap_row F.hz hgW (hneg _ Om)) hs Om, set2_1 hm1, htg, ht.set (fun h => h.2 rfl), ⟨F.hN, Om⟩, fun x hx => by rw [F.rg x hx]; omega, fun x hx => ?_⟩;by_cases e : x = 3
 ·
  subst e;have hL : (kk ++ [kk[0]?.getD []])[3]?.getD [] = kk[0]?.getD [] := by rw [<- hlen]; simp
  rw [hL, F.rc 0 Om]; omega
 ·
  rw [List.getElem?_append_left Om, F.rc x Om]; omega
end
def MRG (R w W : World) (g r gm : Nat) (A : OA) (n c k : Nat) (l : List Int) (bt gn gc : Nat) (CA : OA) (cc : Nat) (gg kk : List (List Int)) (mid hi q : Nat) (rb rd : Nat -> Nat) : Prop := MA R w W g r gm A n c k l (some ⟨bt, 0, none⟩) gn gc CA cc gg kk mid hi q /\ bt ≠ g /\ ∀ j : Nat, j < gn -> W.cell? ⟨bt, j, none⟩ = some (.slice (some ⟨rb j, 0, none⟩) q (rd j))
section
variable {R w W W' : World} {g r gm n c k k' : Nat} {A : OA} {l : List Int} {GA : OA} {gn gc : Nat} {CA : OA} {cc bt : Nat} {gg kk : List (List Int)} {mid hi q : Nat} {rb rd : Nat -> Nat}
theorem MRG.S (F : MRG R w W g r gm A n c k l bt gn gc CA cc gg kk mid hi q rb rd) : W.cell? ⟨gm, 0, none⟩ = some (.slice (some ⟨bt, 0, none⟩) gn gc) /\ ∀ j : Nat, j < gn -> W.cell? ⟨bt, j, none⟩ = some (.slice (some ⟨rb j, 0, none⟩) q (rd j)) := ⟨F.1.cells.1.1, F.2.2⟩
theorem MRG.setS (F : MRG R w W g r gm A n c k l bt gn gc CA cc gg kk mid hi q rb rd) (hi' : i < gn) (hj : j < q) (v : Value) : (W.setCell ⟨rb i, j, none⟩ v).cell? ⟨gm, 0, none⟩ = some (.slice (some ⟨bt, 0, none⟩) gn gc) /\ ∀ x : Nat, x < gn -> (W.setCell ⟨rb i, j, none⟩ v).cell? ⟨bt, x, none⟩ = some (.slice (some ⟨rb x, 0, none⟩) q (rd x)) := by
 obtain ⟨_, _, _, ⟨h1, h2⟩, _⟩ := F.1.elemG rfl hi' (F.2.2 i hi') hj;exact ⟨(World.cell?_setCell_other _ _ _ _ (fun e => by injection e with e; exact h1 e)).trans F.S.1, fun x hx => (World.cell?_setCell_other _ _ _ _ (fun e => by injection e with e; exact h2 e)).trans (F.2.2 x hx)⟩
theorem MRG.step (F : MRG R w W g r gm A n c k l bt gn gc CA cc gg kk mid hi q rb rd) (hX : Cx R W' g A n c k' l) (hg : W.grownBy W' (some g)) : MRG R w W' g r gm A n c k' l bt gn gc CA cc gg kk mid hi q rb rd :=
 ⟨F.1.step hX hg, F.2.1, fun j hj => hg.cell (a := ⟨bt, j, none⟩) (F.2.2 j hj) (fun e => F.2.1 (by injection e))⟩
theorem MRG.below (F : MRG R w W g r gm A n c k l bt gn gc CA cc gg kk mid hi q rb rd) (hb : Below W.heap.size W W') : MRG R w W' g r gm A n c k l bt gn gc CA cc gg kk mid hi q rb rd := F.step (F.1.cx.below hb) (grownBy_of_below hb)
theorem MRG.drew (F : MRG R w W g r gm A n c k l bt gn gc CA cc gg kk mid hi q rb rd) : MRG R w W.drew g r gm A n c k l bt gn gc CA cc gg kk mid hi q rb rd := F.below (bDrew bR)
theorem MRG.litS (F : MRG R w W g r gm A n c k l bt gn gc CA cc gg kk mid hi q rb rd) (cs : Array Value) : (W.alloc (.cells cs 3)).cell? ⟨gm, 0, none⟩ = some (.slice (some ⟨bt, 0, none⟩) gn gc) /\ ∀ j : Nat, j < gn -> (W.alloc (.cells cs 3)).cell? ⟨bt, j, none⟩ = some (.slice (some ⟨rb j, 0, none⟩) q (rd j)) :=
 (F.below (bAlloc (Below.refl W.heap.size W) (.cells cs 3))).S
def MLG (R w W : World) (g r gm : Nat) (A : OA) (n c k : Nat) (l : List Int) (bt gn gc : Nat) (CA : OA) (cc : Nat) (gg kk : List (List Int)) (mid hi q : Nat) (rb rd : Nat -> Nat) (LL : List Int) (x : Nat) : Prop := MRG R w W g r gm A n c k l bt gn gc CA cc gg kk mid hi q rb rd /\ (∃ base cap, OwI base W (some ⟨x, 0, none⟩) LL.length cap LL) /\ g < x
theorem MLG.mk_ (F : MRG R w W g r gm A n c k l bt gn gc CA cc gg kk mid hi q rb rd) (LL : List Int) (hL : LL.length <= 1000) (cs : Array Value) (hcs : cs.toList = LL.map (Value.int .i64)) : MLG R w (W.alloc (.cells cs 3)) g r gm A n c k l bt gn gc CA cc gg kk mid hi q rb rd
 LL W.heap.size := by
 have hB := bAlloc (Below.refl W.heap.size W) (.cells cs 3);exact ⟨F.below hB, ⟨_, _, OwI.lit_ (Below.refl _ W) LL (by simp only [maxLen]; omega) cs hcs⟩, F.1.cx.cur.lt⟩
theorem MLG.drew (F : MLG R w W g r gm A n c k l bt gn gc CA cc gg kk mid hi q rb rd LL x) : MLG R w W.drew g r gm A n c k l bt gn gc CA cc gg kk mid hi q rb rd
 LL x := by
 obtain ⟨h, ⟨base, cap, ho⟩, hx⟩ := F;exact ⟨h.drew, ⟨base, cap, ho.below (bDrew bR)⟩, hx⟩
theorem MLG.S (F : MLG R w W g r gm A n c k l bt gn gc CA cc gg kk mid hi q rb rd LL x) : W.cell? ⟨gm, 0, none⟩ = some (.slice (some ⟨bt, 0, none⟩) gn gc) /\ ∀ j : Nat, j < gn -> W.cell? ⟨bt, j, none⟩ = some (.slice (some ⟨rb j, 0, none⟩) q (rd j)) := F.1.S
def RQG (R w W : World) (g r gm : Nat) (A : OA) (n c k : Nat) (l : List Int) (bt gn gc : Nat) (CA : OA) (cc : Nat) (gg kk : List (List Int)) (mid hi q : Nat) (rb rd : Nat -> Nat) (e : Ending) (w' : World) : Prop := ∃ i : Nat, i < gn /\ e = .returned (.int .i64 i) /\ MRG R w w' g r gm A n c (k + 2) l bt gn gc CA cc gg kk mid hi q rb rd
theorem MRG.pick (F : MRG R w W g r gm A n c k l bt gn gc CA cc gg kk mid hi q rb rd) (hk : k <= 1000000) (h0 : 0 < gn) :
  Calls Tryz.prog 56 #[.pointer (some ⟨g, 0, none⟩), .int .i64 ((gn : Nat) : Int)] W (RQG R w W g r gm A n c k l bt gn gc CA cc gg kk mid hi q rb rd) := by
 have hN := F.1.hN;refine (pick_cx F.1.cx ((gn : Nat) : Int) Om Om Om).mono ?_;intro e w' hp;obtain ⟨v, ⟨h0, h1⟩, rfl, hX, hg⟩ := F.1.cx.pick hp;obtain ⟨i, rfl⟩ : ∃ i : Nat, v = i := ⟨v.toNat, Om⟩;exact ⟨i, Om, rfl, F.step hX hg⟩
def RLG (R w W : World) (g r gm : Nat) (A : OA) (n c k : Nat) (l : List Int) (bt gn gc : Nat) (CA : OA) (cc : Nat) (gg kk : List (List Int)) (mid hi q : Nat) (rb rd : Nat -> Nat) (LL : List Int) (x : Nat) (e : Ending) (w' : World) : Prop := ∃ i : Nat, i < gn /\ e = .returned (.int .i64 i) /\ MLG R w w' g r gm A n c (k + 2) l bt gn gc CA cc gg kk mid hi q rb rd LL x
theorem MLG.pick (F : MLG R w W g r gm A n c k l bt gn gc CA cc gg kk mid hi q rb rd LL x) (hk : k <= 1000000) (h0 : 0 < gn) :
  Calls Tryz.prog 56 #[.pointer (some ⟨g, 0, none⟩), .int .i64 ((gn : Nat) : Int)] W (RLG R w W g r gm A n c k l bt gn gc CA cc gg kk mid hi q rb rd LL x) := by
 obtain ⟨F, ⟨base, cap, ho⟩, hx⟩ := F;have hN := F.1.hN;refine (pick_cx F.1.cx ((gn : Nat) : Int) Om Om Om).mono ?_;intro e w' hp;obtain ⟨v, ⟨h0, h1⟩, rfl, hX, hg⟩ := F.1.cx.pick hp;obtain ⟨i, rfl⟩ : ∃ i : Nat, v = i := ⟨v.toNat, Om⟩;exact ⟨i, Om, rfl, F.step hX hg, ⟨base, cap, ho.kept hg (.inr (by simp [blkOf]; omega))⟩, hx⟩
def RXG (R w W : World) (g r gm : Nat) (A : OA) (n c k : Nat) (l : List Int) (bt gn gc : Nat) (CA : OA) (cc : Nat) (gg kk : List (List Int)) (mid hi q : Nat) (rb rd : Nat -> Nat) (e : Ending) (w' : World) : Prop := ∃ v : Int, e = .returned (.int .i64 v) /\ MRG R w w' g r gm A n c (k + 2) l bt gn gc CA cc gg kk mid hi q rb rd
theorem MLG.among (F : MLG R w W g r gm A n c k l bt gn gc CA cc gg kk mid hi q rb rd LL x) (hk : k <= 1000000) (m : Nat) (hm : m = LL.length) (hm1 : 1 <= m) (hm2 : m <= 1000) (d : Nat) :
  Calls Tryz.prog 73 #[.pointer (some ⟨g, 0, none⟩), .slice (some ⟨x, 0, none⟩) m d] W (RXG R w W g r gm A n c k l bt gn gc CA cc gg kk mid hi q rb rd) := by
 subst hm;obtain ⟨F, ⟨base, cap, ho⟩, hx⟩ := F;refine (among_cx F.1.cx _ d LL Om ho.rd hx hm1 Om).mono ?_;rintro e w' ⟨v, hv, rfl, hC, hg⟩;exact ⟨v, rfl, F.step (F.1.cx.grow hC hg) hg⟩
end
def MRC (R w W : World) (g r gm : Nat) (A : OA) (n c k : Nat) (l : List Int) (GA : OA) (gn gc bt cc : Nat) (gg kk : List (List Int)) (mid hi q : Nat) (rb rd : Nat -> Nat) : Prop := MA R w W g r gm A n c k l GA gn gc (some ⟨bt, 0, none⟩) cc gg kk mid hi q /\ bt ≠ g /\ ∀ j : Nat, j < 3 -> W.cell? ⟨bt, j, none⟩ = some (.slice (some ⟨rb j, 0, none⟩) q (rd j))
section
variable {R w W W' : World} {g r gm n c k k' : Nat} {A : OA} {l : List Int} {GA : OA} {gn gc : Nat} {CA : OA} {cc bt : Nat} {gg kk : List (List Int)} {mid hi q : Nat} {rb rd : Nat -> Nat}
theorem MRC.S (F : MRC R w W g r gm A n c k l GA gn gc bt cc gg kk mid hi q rb rd) : W.cell? ⟨gm, 1, none⟩ = some (.slice (some ⟨bt, 0, none⟩) 3 cc) /\ ∀ j : Nat, j < 3 -> W.cell? ⟨bt, j, none⟩ = some (.slice (some ⟨rb j, 0, none⟩) q (rd j)) := ⟨F.1.cells.1.2, F.2.2⟩
theorem MRC.setS (F : MRC R w W g r gm A n c k l GA gn gc bt cc gg kk mid hi q rb rd) (hi' : i < 3) (hj : j < q) (v : Value) : (W.setCell ⟨rb i, j, none⟩ v).cell? ⟨gm, 1, none⟩ = some (.slice (some ⟨bt, 0, none⟩) 3 cc) /\ ∀ x : Nat, x < 3 -> (W.setCell ⟨rb i, j, none⟩ v).cell? ⟨bt, x, none⟩ = some (.slice (some ⟨rb x, 0, none⟩) q (rd x)) := by
 obtain ⟨_, _, _, ⟨h1, h2⟩, _⟩ := F.1.elemC rfl hi' (F.2.2 i hi') hj;exact ⟨(World.cell?_setCell_other _ _ _ _ (fun e => by injection e with e; exact h1 e)).trans F.S.1, fun x hx => (World.cell?_setCell_other _ _ _ _ (fun e => by injection e with e; exact h2 e)).trans (F.2.2 x hx)⟩
theorem MRC.step (F : MRC R w W g r gm A n c k l GA gn gc bt cc gg kk mid hi q rb rd) (hX : Cx R W' g A n c k' l) (hg : W.grownBy W' (some g)) : MRC R w W' g r gm A n c k' l GA gn gc bt cc gg kk mid hi q rb rd :=
 ⟨F.1.step hX hg, F.2.1, fun j hj => hg.cell (a := ⟨bt, j, none⟩) (F.2.2 j hj) (fun e => F.2.1 (by injection e))⟩
theorem MRC.below (F : MRC R w W g r gm A n c k l GA gn gc bt cc gg kk mid hi q rb rd) (hb : Below W.heap.size W W') : MRC R w W' g r gm A n c k l GA gn gc bt cc gg kk mid hi q rb rd := F.step (F.1.cx.below hb) (grownBy_of_below hb)
theorem MRC.drew (F : MRC R w W g r gm A n c k l GA gn gc bt cc gg kk mid hi q rb rd) : MRC R w W.drew g r gm A n c k l GA gn gc bt cc gg kk mid hi q rb rd := F.below (bDrew bR)
theorem MRC.litS (F : MRC R w W g r gm A n c k l GA gn gc bt cc gg kk mid hi q rb rd) (cs : Array Value) : (W.alloc (.cells cs 3)).cell? ⟨gm, 1, none⟩ = some (.slice (some ⟨bt, 0, none⟩) 3 cc) /\ ∀ j : Nat, j < 3 -> (W.alloc (.cells cs 3)).cell? ⟨bt, j, none⟩ = some (.slice (some ⟨rb j, 0, none⟩) q (rd j)) :=
 (F.below (bAlloc (Below.refl W.heap.size W) (.cells cs 3))).S
def MLC (R w W : World) (g r gm : Nat) (A : OA) (n c k : Nat) (l : List Int) (GA : OA) (gn gc bt cc : Nat) (gg kk : List (List Int)) (mid hi q : Nat) (rb rd : Nat -> Nat) (LL : List Int) (x : Nat) : Prop := MRC R w W g r gm A n c k l GA gn gc bt cc gg kk mid hi q rb rd /\ (∃ base cap, OwI base W (some ⟨x, 0, none⟩) LL.length cap LL) /\ g < x
theorem MLC.mk_ (F : MRC R w W g r gm A n c k l GA gn gc bt cc gg kk mid hi q rb rd) (LL : List Int) (hL : LL.length <= 1000) (cs : Array Value) (hcs : cs.toList = LL.map (Value.int .i64)) : MLC R w (W.alloc (.cells cs 3)) g r gm A n c k l GA gn gc bt cc gg kk mid hi q rb rd
 LL W.heap.size := by
 have hB := bAlloc (Below.refl W.heap.size W) (.cells cs 3);exact ⟨F.below hB, ⟨_, _, OwI.lit_ (Below.refl _ W) LL (by simp only [maxLen]; omega) cs hcs⟩, F.1.cx.cur.lt⟩
theorem MLC.drew (F : MLC R w W g r gm A n c k l GA gn gc bt cc gg kk mid hi q rb rd LL x) : MLC R w W.drew g r gm A n c k l GA gn gc bt cc gg kk mid hi q rb rd
 LL x := by
 obtain ⟨h, ⟨base, cap, ho⟩, hx⟩ := F;exact ⟨h.drew, ⟨base, cap, ho.below (bDrew bR)⟩, hx⟩
theorem MLC.S (F : MLC R w W g r gm A n c k l GA gn gc bt cc gg kk mid hi q rb rd LL x) : W.cell? ⟨gm, 1, none⟩ = some (.slice (some ⟨bt, 0, none⟩) 3 cc) /\ ∀ j : Nat, j < 3 -> W.cell? ⟨bt, j, none⟩ = some (.slice (some ⟨rb j, 0, none⟩) q (rd j)) := F.1.S
def RQC (R w W : World) (g r gm : Nat) (A : OA) (n c k : Nat) (l : List Int) (GA : OA) (gn gc bt cc : Nat) (gg kk : List (List Int)) (mid hi q : Nat) (rb rd : Nat -> Nat) (e : Ending) (w' : World) : Prop := ∃ i : Nat, i < 3 /\ e = .returned (.int .i64 i) /\ MRC R w w' g r gm A n c (k + 2) l GA gn gc bt cc gg kk mid hi q rb rd
theorem MRC.pick (F : MRC R w W g r gm A n c k l GA gn gc bt cc gg kk mid hi q rb rd) (hk : k <= 1000000) (h0 : 0 < 3) :
  Calls Tryz.prog 56 #[.pointer (some ⟨g, 0, none⟩), .int .i64 3] W (RQC R w W g r gm A n c k l GA gn gc bt cc gg kk mid hi q rb rd) := by
 have hN := F.1.hN;refine (pick_cx F.1.cx 3 Om Om Om).mono ?_;intro e w' hp;obtain ⟨v, ⟨h0, h1⟩, rfl, hX, hg⟩ := F.1.cx.pick hp;obtain ⟨i, rfl⟩ : ∃ i : Nat, v = i := ⟨v.toNat, Om⟩;exact ⟨i, Om, rfl, F.step hX hg⟩
def RLC (R w W : World) (g r gm : Nat) (A : OA) (n c k : Nat) (l : List Int) (GA : OA) (gn gc bt cc : Nat) (gg kk : List (List Int)) (mid hi q : Nat) (rb rd : Nat -> Nat) (LL : List Int) (x : Nat) (e : Ending) (w' : World) : Prop := ∃ i : Nat, i < 3 /\ e = .returned (.int .i64 i) /\ MLC R w w' g r gm A n c (k + 2) l GA gn gc bt cc gg kk mid hi q rb rd LL x
theorem MLC.pick (F : MLC R w W g r gm A n c k l GA gn gc bt cc gg kk mid hi q rb rd LL x) (hk : k <= 1000000) (h0 : 0 < 3) :
  Calls Tryz.prog 56 #[.pointer (some ⟨g, 0, none⟩), .int .i64 3] W (RLC R w W g r gm A n c k l GA gn gc bt cc gg kk mid hi q rb rd LL x) := by
 obtain ⟨F, ⟨base, cap, ho⟩, hx⟩ := F;have hN := F.1.hN;refine (pick_cx F.1.cx 3 Om Om Om).mono ?_;intro e w' hp;obtain ⟨v, ⟨h0, h1⟩, rfl, hX, hg⟩ := F.1.cx.pick hp;obtain ⟨i, rfl⟩ : ∃ i : Nat, v = i := ⟨v.toNat, Om⟩;exact ⟨i, Om, rfl, F.step hX hg, ⟨base, cap, ho.kept hg (.inr (by simp [blkOf]; omega))⟩, hx⟩
def RXC (R w W : World) (g r gm : Nat) (A : OA) (n c k : Nat) (l : List Int) (GA : OA) (gn gc bt cc : Nat) (gg kk : List (List Int)) (mid hi q : Nat) (rb rd : Nat -> Nat) (e : Ending) (w' : World) : Prop := ∃ v : Int, e = .returned (.int .i64 v) /\ MRC R w w' g r gm A n c (k + 2) l GA gn gc bt cc gg kk mid hi q rb rd
theorem MLC.among (F : MLC R w W g r gm A n c k l GA gn gc bt cc gg kk mid hi q rb rd LL x) (hk : k <= 1000000) (m : Nat) (hm : m = LL.length) (hm1 : 1 <= m) (hm2 : m <= 1000) (d : Nat) :
  Calls Tryz.prog 73 #[.pointer (some ⟨g, 0, none⟩), .slice (some ⟨x, 0, none⟩) m d] W (RXC R w W g r gm A n c k l GA gn gc bt cc gg kk mid hi q rb rd) := by
 subst hm;obtain ⟨F, ⟨base, cap, ho⟩, hx⟩ := F;refine (among_cx F.1.cx _ d LL Om ho.rd hx hm1 Om).mono ?_;rintro e w' ⟨v, hv, rfl, hC, hg⟩;exact ⟨v, rfl, F.step (F.1.cx.grow hC hg) hg⟩
end
def CZ (R w W : World) (g r gm : Nat) (A : OA) (n c k : Nat) (l : List Int) (bt cc : Nat) : Prop := ∃ K : List (List Int), Cx R W g A n c k l /\ w.grownBy W (some g) /\ W.heap[r]? = some zMarks /\ W.heap[gm]? = some (.cells #[.slice none 0 0, .slice (some ⟨bt, 0, none⟩) 3 cc] 31) /\ Tr (okB r gm) W (some ⟨bt, 0, none⟩) 3 cc K /\ (∀ j, j < 3 -> (K[j]?.getD []).length <= 10) /\ (∀ j, W.frozen? ⟨bt, j, none⟩ = false) /\ okB r gm bt /\ (w.heap.size = r /\ R.heap.size <= g /\ g < r)
section
variable {R w W : World} {g r gm n c k : Nat} {A : OA} {l : List Int} {bt cc : Nat}
theorem CZ.fs (h : CZ R w W g r gm A n c k l bt cc) : FS R w W g r gm A n c k l := by
 obtain ⟨K, h1, h2, h3, h4, h5, h6, _, _, _⟩ := h;exact ⟨_, _, _, _, _, _, _, _, h1, h2, h3, h4, Tr.nil_, h5, Om, fun j hj => by omega, h6⟩
theorem CZ.cells (h : CZ R w W g r gm A n c k l bt cc) : W.cell? ⟨gm, 1, none⟩ = some (.slice (some ⟨bt, 0, none⟩) 3 cc) /\ gm < W.heap.size /\ (∀ j, j < 3 -> ∃ v, W.cell? ⟨bt, j, none⟩ = some v) /\ (∀ j, W.frozen? ⟨bt, j, none⟩ = false) /\ bt < W.heap.size := by
 obtain ⟨K, h1, h2, h3, h4, h5, h6, h7, h8, _⟩ := h;obtain ⟨_, _, _, ht⟩ := h5;obtain ⟨b, off, e, hb, _, hc⟩ := ht Om;injection e with e;injection e with e1 e2;subst e1 e2;refine ⟨(blk2 h4).1.2, (Array.getElem?_eq_some_iff.1 h4).1, fun j hj => ?_, h7, hb⟩;obtain ⟨B, m, d, q1, _⟩ := hc j hj;rw [Nat.zero_add] at q1;exact ⟨_, q1⟩
theorem CZ.drew (h : CZ R w W g r gm A n c k l bt cc) : CZ R w W.drew g r gm A n c k l bt cc := by
 obtain ⟨K, h1, h2, h3, h4, h5, h6, h7, h8, h9⟩ := h;have hb := bDrew (Below.refl W.heap.size W);exact ⟨K, h1.below hb, h2.trans (grownBy_of_below hb), heap_old h3 hb, heap_old h4 hb, h5.below hb, h6, h7, h8, h9⟩
theorem CZ.row (h : CZ R w W g r gm A n c k l bt cc) {N : Nat} (hj : j < 3) (hN : N <= 10) (cs : Array Value) (hcs : cs.toList = (List.replicate N (0 : Int)).map (Value.int .i64)) :
  CZ R w ((W.alloc (.cells cs 3)).setCell ⟨bt, j, none⟩ (.slice (some ⟨W.heap.size, 0, none⟩) N N)) g r gm A n c k l bt cc := by
 obtain ⟨hc1, hgm, _, _, hbl⟩ := h.cells;obtain ⟨K, h1, h2, h3, h4, h5, h6, h7, h8, h9⟩ := h;have hB := bAlloc (Below.refl W.heap.size W) (.cells cs 3);have hs := gSetM (W.alloc (.cells cs 3)) bt j (.slice (some ⟨W.heap.size, 0, none⟩) N N);have ho := OwI.lit_ (Below.refl _ W) (List.replicate N (0 : Int)) (by simp [maxLen]; omega) cs hcs;rw [List.length_replicate] at ho;have hr := (Array.getElem?_eq_some_iff.1 h3).1;have hbr : r < bt := h8.1;have hbg : bt ≠ gm := h8.2;have ht := (h5.below hB).put (k := j) hj ho.rd ho.cap_.1 ho.cap_.2 (fun z hz => by
  have e : W.heap.size = z := by simpa [blkOf] using hz
  exact ⟨⟨Om, Om⟩, Om⟩)
 rw [Nat.zero_add] at ht;refine ⟨_, (h1.below hB).set Om Om j _, grow_set (h2.trans (grownBy_of_below hB)) Om j _, heap_kept (heap_old h3 hB) hs Om, heap_kept (heap_old h4 hB) hs Om, ht, fun x hx => ?_, fun x => ?_, h8, h9⟩
 ·
  by_cases e : x = j
  ·
   subst e;have hl := h5.1;have hL : (K.set x (List.replicate N (0 : Int)))[x]?.getD [] = List.replicate N 0 := by simp [hl, hx]
   rw [hL, List.length_replicate]; exact hN
  ·
   rw [List.getElem?_set_ne (fun h => e h.symm)]; exact h6 x hx
 ·
  have h7' : (W.alloc (.cells cs 3)).frozen? ⟨bt, x, none⟩ = false := by
   have : (W.alloc (.cells cs 3)).frozen? ⟨bt, x, none⟩ = W.frozen? ⟨bt, x, none⟩ := by simp only [World.frozen?, hB.block bt hbl]
   rw [this]; exact h7 x
  simpa [go_sem] using h7'
end
def RetAM (R w : World) (g : Nat) (A : OA) (n c k : Nat) (l : List Int) (e : Ending) (w' : World) : Prop := ∃ (A1 : OA) (n1 c1 : Nat) (G : List (List Int)) (A2 : OA) (n2 c2 : Nat) (K : List (List Int)), e = .returned (.agg #[.slice A1 n1 c1, .slice A2 n2 c2]) /\ Cx R w' g A n c k l /\ w.grownBy w' (some g) /\ Tr (fun z => w.heap.size <= z) w' A1 n1 c1 G /\ Tr (fun z => w.heap.size <= z) w' A2 n2 c2 K /\ (n1 <= 15 /\ n2 <= 4) /\ (∀ j, j < n1 -> (G[j]?.getD []).length <= 10) /\ ∀ j, j < n2 -> (K[j]?.getD []).length <= 10
theorem anyMarks_any {R w : World} {g n c k : Nat} {A : OA} {l : List Int} (h : Cx R w g A n c k l) (hk : k <= 900000) (N : Nat) (hN : N <= 15) :
  Calls Tryz.prog 126 #[.pointer (some ⟨g, 0, none⟩), .int .i64 N] w (RetAM R w g A n c (k + 2000) l) := by
 have hgw := h.cur.lt;go_enter Tryz.func126, Tryz.ntmps126;go_wp2_with fail
 have hz := heap_alloc_new w zMarks;have hB := bAlloc (Below.refl w.heap.size w) zMarks;have h0 : Cx R (w.alloc zMarks) g A n c k l := h.below hB;have g0 : w.grownBy (w.alloc zMarks) (some g) := grownBy_of_below hB;have hsz : (w.alloc zMarks).heap.size = w.heap.size + 1 := by simp
 simp only [zMarks] at hz h0 g0 hsz;clear hB;generalize hrr : w.heap.size = r at *;have Hr := Lib.hid hrr;clear hrr;generalize w.alloc (.cells #[.slice none 0 0, .slice none 0 0] 31) = W0 at *;refine (marks_any h0 Om N hN).mono ?_;rintro e w1 ⟨GA, gc, CA, cc, gg, kk, mid, q, rfl, hq, h1, tg, tc, hmid, rg, rc, g1⟩;rw [hsz] at tg hmid;have hz1 := heap_kept hz g1 Om;have g01 := g0.trans g1;clear h0 g0 g1 hz hsz;go_wp2_with fail
 have hB1 := bAlloc (Below.refl w1.heap.size w1) (.cells #[.slice GA N gc, .slice CA 3 cc] 31);have hm1 := heap_alloc_new w1 (.cells #[.slice GA N gc, .slice CA 3 cc] 31);have F1 : MA R w (w1.alloc (.cells #[.slice GA N gc, .slice CA 3 cc] 31)) g r w1.heap.size A n c (k + 1000) l GA N gc CA cc gg kk mid w1.heap.size q :=
  ⟨h1.below hB1, g01.trans (grownBy_of_below hB1), Hr.out, hgw, heap_old hz1 hB1, hm1, (tg.below hB1).mono Om (Nat.le_refl _), tc.below hB1, ⟨Om, hmid.2, Nat.le_refl _, by simp⟩, hN, hq, rg, rc⟩
 have hR1 : RdMk (w1.alloc (.cells #[.slice GA N gc, .slice CA 3 cc] 31)) GA N CA 3 gg kk := ⟨F1.tg.toM.rd, F1.tc.toM.rd, Om, Om, fun j hj => by rw [rg j hj]; omega, fun j hj => by rw [rc j hj]; omega⟩;have hJ : judgesN kk = q := rc 0 Om;have cj := mkJudges_any _ GA CA N 3 gc cc gg kk hR1 Om;rw [hJ] at cj;clear h1 tg tc hmid rg rc hz1 g01 hB1 hm1 hR1 hJ;generalize w1.alloc (.cells #[.slice GA N gc, .slice CA 3 cc] 31) = W1 at *;generalize w1.heap.size = gm at *;refine cj.mono ?_;rintro e w2 ⟨rfl, x2, rfl⟩;have F2 := F1.below (ext_below W1 x2);clear cj F1;generalize ext W1 x2 = W2 at *;go_wp2_with fail
 refine (pick_cx F2.cx q Om Om Om).mono ?_;intro e w3 hp;obtain ⟨v3, ⟨ha0, ha1⟩, rfl, h3, g3⟩ := F2.cx.pick hp;have F3 := F2.step h3 g3;obtain ⟨ju, rfl⟩ : ∃ ju : Nat, v3 = ju := ⟨v3.toNat, Om⟩;have hju : ju < q := Om;clear hp F2 h3 g3 ha0 ha1;go_wp2_with fail
 refine (pick_cx F3.cx 30 Om Om Om).mono ?_;intro e w4 hp;obtain ⟨sw, ⟨hb0, hb1⟩, rfl, h4, g4⟩ := F3.cx.pick hp;have F4 := F3.step h4 g4;clear hp F3 h4 g4;go_upto_block 0 with fail
 go_cut [] (fun wq => FS R w wq g r gm A n c (k + 1100) l)
 case first =>
  exact Nonempty.elim (α := type_of% ?k2) (letI i : Nonempty (type_of% ?k2) := ⟨by
   obtain ⟨⟨c0, c1⟩, f0, f1⟩ := F4.cells;have hgm := F4.hmid.2.2.2;by_cases s0 : sw = 0
   ·
    subst s0;by_cases h0 : N = 0
    ·
     subst h0;go_wp2;go_meet;exact F4.fs.mono Om
    ·
     have h1 : 0 < N := Om;have h1I : (0 : Int) < N := Om;obtain ⟨bt, rb, rd, rfl, hb2, hb3, hfz, hrows⟩ := F4.rowsG h1;have F : MRG R w w4 g r gm A n c (k + 1000 + 2 + 2) l bt N gc CA cc gg kk mid gm q rb rd := ⟨F4, by have := F4.hg; have := F4.hmid; omega, hrows⟩;have FL := (MLG.mk_ F [-6, -5, 5, 6] (by simp) #[.int .i64 (-6), .int .i64 (-5), .int .i64 5, .int .i64 6] rfl).drew;clear F4 hrows c0 c1 f0 f1;go_upto_region 6 with fail
     go_region_held3 (fun w' => w'.cell? ⟨gm, 0, none⟩ = some (.slice (some ⟨bt, 0, none⟩) N gc) /\ ∀ j : Nat, j < N -> w'.cell? ⟨bt, j, none⟩ = some (.slice (some ⟨rb j, 0, none⟩) q (rd j))) (first | with_reducible exact F7.setS hi hju _ | with_reducible exact F7.S | with_reducible exact F6.S | with_reducible exact F5.S | with_reducible exact F5.litS _ | with_reducible exact FL.S | with_reducible exact F.drew.S | with_reducible exact F.S)
      (first | (go_at_call 56; ((with_reducible refine (F.drew.pick Om h1).mono ?_); rintro e w' ⟨i, hi, rfl, F5⟩; have hiI : (i : Int) < N := Om)) | (go_at_call 56; ((with_reducible refine (FL.pick Om h1).mono ?_); rintro e w' ⟨i, hi, rfl, F6⟩; have hiI : (i : Int) < N := Om)) | (go_at_call 73; ((with_reducible refine (F6.among Om 4 rfl Om Om _).mono ?_); rintro e w' ⟨v, rfl, F7⟩; obtain ⟨⟨xo, hxo⟩, hfo, hbo, _, hFS⟩ := F7.1.elemG rfl hi (F7.2.2 i hi) hju)) | (go_at_call 73; ((with_reducible refine ((MLG.mk_ F5 [-6, -5, 5, 6] (by simp) #[.int .i64 (-6), .int .i64 (-5), .int .i64 5, .int .i64 6] rfl).among Om 4 rfl Om Om _).mono ?_); rintro e w' ⟨v, rfl, F7⟩; obtain ⟨⟨xo, hxo⟩, hfo, hbo, _, hFS⟩ := F7.1.elemG rfl hi (F7.2.2 i hi) hju)))
     all_goals
      go_wp2;go_meet;exact (hFS v).mono Om
   by_cases s1 : sw = 1
   ·
    subst s1;obtain ⟨bt, rb, rd, rfl, hb2, hb3, hfz, hrows⟩ := F4.rowsC Om;have F : MRC R w w4 g r gm A n c (k + 1000 + 2 + 2) l GA N gc bt cc gg kk mid gm q rb rd := ⟨F4, by have := F4.hg; have := F4.hmid; omega, hrows⟩;have FL := (MLC.mk_ F [-25, 0, 10, 1000, 1025] (by simp) #[.int .i64 (-25), .int .i64 0, .int .i64 10, .int .i64 1000, .int .i64 1025] rfl).drew;clear F4 hrows c0 c1 f0 f1;go_upto_region 8 with fail
    go_region_held3 (fun w' => w'.cell? ⟨gm, 1, none⟩ = some (.slice (some ⟨bt, 0, none⟩) 3 cc) /\ ∀ j : Nat, j < 3 -> w'.cell? ⟨bt, j, none⟩ = some (.slice (some ⟨rb j, 0, none⟩) q (rd j))) (first | with_reducible exact F7.setS hi hju _ | with_reducible exact F7.S | with_reducible exact F6.S | with_reducible exact F5.S | with_reducible exact F5.litS _ | with_reducible exact FL.S | with_reducible exact F.drew.S | with_reducible exact F.S)
     (first | (go_at_call 56; ((with_reducible refine (F.drew.pick Om Om).mono ?_); rintro e w' ⟨i, hi, rfl, F5⟩; have hiI : (i : Int) < 3 := Om)) | (go_at_call 56; ((with_reducible refine (FL.pick Om Om).mono ?_); rintro e w' ⟨i, hi, rfl, F6⟩; have hiI : (i : Int) < 3 := Om)) | (go_at_call 73; ((with_reducible refine (F6.among Om 5 rfl Om Om _).mono ?_); rintro e w' ⟨v, rfl, F7⟩; obtain ⟨⟨xo, hxo⟩, hfo, hbo, _, hFS⟩ := F7.1.elemC rfl hi (F7.2.2 i hi) hju)) | (go_at_call 73; ((with_reducible refine ((MLC.mk_ F5 [-25, 0, 10, 1000, 1025] (by simp) #[.int .i64 (-25), .int .i64 0, .int .i64 10, .int .i64 1000, .int .i64 1025] rfl).among Om 5 rfl Om Om _).mono ?_); rintro e w' ⟨v, rfl, F7⟩; obtain ⟨⟨xo, hxo⟩, hfo, hbo, _, hFS⟩ := F7.1.elemC rfl hi (F7.2.2 i hi) hju)))
    all_goals
     go_wp2;go_meet;exact (hFS v).mono Om
   by_cases s2 : sw = 2
   ·
    subst s2;by_cases h0 : N = 0
    ·
     subst h0;go_wp2;go_meet;exact F4.fs.mono Om
    ·
     have h1 : 0 < N := Om;have h1I : (0 : Int) < N := Om;go_wp2_with fail
     refine (pick_cx F4.cx N Om Om Om).mono ?_;intro e w5 hp;obtain ⟨v5, ⟨ha0, ha1⟩, rfl, h5, g5⟩ := F4.cx.pick hp;obtain ⟨i, rfl⟩ : ∃ i : Nat, v5 = i := ⟨v5.toNat, Om⟩;have F5 := F4.step h5 g5;have hi : i < N := Om;have hiI : (i : Int) < N := Om;clear hp F4 h5 g5 c0 c1 f0 f1 hgm ha0 ha1;obtain ⟨bt, rb, rd, rfl, hb2, hb3, hfz, hrows⟩ := F5.rowsG h1;have hrow := hrows i hi;obtain ⟨hOw, _, hnext⟩ := F5.grow rfl hi hrow;obtain ⟨⟨c0, c1⟩, f0, f1⟩ := F5.cells;have hmm := F5.hmid;have hgm := hmm.2.2.2;have hB5 := F5.cx.bel;have hbt : bt < w5.heap.size := Om;have hqb : q + 1 <= 1099511627776 := Om;clear hrows;go_upto_region 12 with fail
     go_region_law (refine step_app_int R rfl _ _ rfl _ _ _ _ rfl hOw ?_ ?_ _ 1 1 [0] rfl (RdI.one_ ?_ ?_) bR hqb ?_; exact bL; exact bL; (focus (simp [go_sem]; done)); (focus (simp [go_sem]; done)); intro A' c' y o6 hga hda; obtain ⟨⟨d1, d2, d3, d4, d5⟩, hFS⟩ := hnext _ y A' c' _ bL o6 hga hda)
     all_goals
      go_wp2;go_meet;exact hFS.mono Om
   by_cases s3 : sw = 3
   ·
    subst s3;obtain ⟨bt, xs, B0, m0, d0, rfl, hbt, hc, hxs, hb2, hb3, hnext⟩ := F4.app;have hB5 := F4.cx.bel;go_upto_region 14 with fail
    go_region_law (refine step_app_row R rfl _ _ rfl _ 3 _ xs rfl hb2 ?_ hxs ?_ ?_ _ 1 B0 m0 d0 rfl ?_ ?_ Om ?_; (focus (simp; omega)); exact bL; exact bL; (focus (simp [go_sem]; done)); (focus (simp [go_sem]; done)); intro A' c' y o6 hga hda; obtain ⟨⟨d1, d2, d3⟩, hFS⟩ := hnext _ y A' c' bL o6 hga hda)
    all_goals
     go_wp2;go_meet;exact hFS.mono Om
   by_cases s4 : sw = 4
   ·
    subst s4;obtain ⟨bt, rb, rd, rfl, hb2, hb3, hfz, hrows⟩ := F4.rowsC Om;have hr1 := hrows 1 Om;have hq1 : (1 : Int) <= q := Om;have hmm := F4.hmid;have hbt : bt < w4.heap.size := Om;go_upto_region 16 with fail
    go_still_tail 8, (by kernel_rfl)
    change wpList _ _ _ _ _ w4.drew
    have F5 := F4.drew;have hr5 : w4.drew.cell? ⟨bt, 1, none⟩ = some (.slice (some ⟨rb 1, 0, none⟩) q (rd 1)) := hr1;have hf5 : w4.drew.frozen? ⟨bt, 1, none⟩ = false := hfz 1;have hbt5 : bt < w4.drew.heap.size := hbt;clear F4 hr1 hfz hrows c0 c1 f0 f1 hgm hbt;generalize w4.drew = w5 at *;have hle := F5.cx.le;have hgr := F5.hg;have hww := F5.hr;have hqq := F5.hq;obtain ⟨ho, _⟩ := F5.rowRdC rfl Om hr5;obtain ⟨_, _, hrb, ⟨hne1, hne2⟩, _⟩ := F5.elemC (j := 0) rfl Om hr5 Om;have hcap := ho.cap_;have hbk := (ho.blk (g := rb 1) rfl).1;have hmm5 := F5.hmid;have hput := F5.trC.put (k := 1) (m0 := q - 1) (d0 := rd 1 - 1) Om (ho.rd.drop1 Om) Om Om (fun z hz => by
     have e : rb 1 = z := by simpa [blkOf] using hz
     exact ⟨⟨Om, Om⟩, Om⟩)
    rw [Nat.zero_add] at hput;have hz1 : ¬ rd 1 - 1 = 0 := Om;have hz2 : ¬ rd 1 = 1 := Om;have hz3 : ¬ rd 1 <= 1 := Om;have hz4 : 1 < rd 1 := Om;go_wp2;go_meet;refine FS.mono (k := k + 1000 + 2 + 2) ⟨_, _, _, _, _, _, _, _, F5.cx.set Om Om 1 _, grow_set F5.gr Om 1 _, heap_kept F5.hz (cur_grown _ bt 1 _) Om, heap_kept F5.hm (cur_grown _ bt 1 _) Om, (F5.tg.set (g := bt) (.inr Om)).tr F5.okG, hput, ⟨F5.hN, Om⟩, fun x hx => by rw [F5.rg x hx]; omega, fun x hx => ?_⟩ Om;by_cases e : x = 1
    ·
     subst e;have hl := F5.tc.1;have hk1 := F5.rc 1 Om;have hL : (kk.set 1 ((kk[1]?.getD []).drop 1))[1]?.getD [] = (kk[1]?.getD []).drop 1 := by simp [hl]
     rw [hL, List.length_drop]; omega
    ·
     rw [List.getElem?_set_ne (fun h => e h.symm), F5.rc x hx]; omega
   by_cases s5 : sw = 5
   ·
    subst s5;obtain ⟨bt, rb, rd, rfl, hb2, hb3, hfz, hrows⟩ := F4.rowsC Om;have hmm4 := F4.hmid;have hle4 := F4.cx.le;have hgr4 := F4.hg;go_wp2_with fail
    refine (among_lit F4.cx Om [2, 9, 10] 3 _ rfl rfl Om Om _ rfl 3).mono ?_;rintro e w5 ⟨v5, hv5, rfl, h5, g5⟩;obtain ⟨M, rfl⟩ : ∃ M : Nat, v5 = M := ⟨v5.toNat, by simp at hv5; omega⟩;have hM : M <= 10 := by simp at hv5; omega
    have F5 := F4.step h5 g5;obtain ⟨⟨d0, d1⟩, e0, e1⟩ := F5.cells;have hmm := F5.hmid;have hgm5 := hmm.2.2.2;have hle := F5.cx.le;have hgr := F5.hg;have hww := F5.hr;have hqq := F5.hq;have HZ : CZ R w (w5.setCell ⟨gm, 0, none⟩ (.slice none 0 0)) g r gm A n c (k + 1000 + 2 + 2 + 2) l bt cc :=
     ⟨kk, F5.cx.set Om Om 0 _, grow_set F5.gr Om 0 _, heap_kept F5.hz (cur_grown _ gm 0 _) Om, set2_0 F5.hm, F5.trC.set (fun h => h.2 rfl), fun j hj => by rw [F5.rc j hj]; omega, fun j => by
      have hfb : w5.heap[bt]? = w4.heap[bt]? := g5.block bt Om (fun e => by injection e with e; omega);have hf : w5.frozen? ⟨bt, j, none⟩ = false := by rw [show w5.frozen? ⟨bt, j, none⟩ = w4.frozen? ⟨bt, j, none⟩ by simp only [World.frozen?, hfb]]; exact hfz j
      simpa [go_sem] using hf, ⟨Om, Om⟩, hww, hle, hgr⟩
    clear hv5 F4 h5 g5 hrows hfz c0 c1 f0 f1 hgm;clear F5 hmm hqq;go_wp2;generalize w5.setCell ⟨gm, 0, none⟩ (.slice none 0 0) = w6 at *
    go_loopw [9, 96] (fun _ ix wr => ∃ j : Nat, j <= 3 /\ ix = .int .i64 j /\ CZ R w wr g r gm A n c (k + 1000 + 2 + 2 + 2) l bt cc) (fun _ ix _ => 3 - (intOf ix).toNat)
    case atStart => exact ⟨0, Om, rfl, HZ⟩
    case round =>
     exact Nonempty.elim (α := type_of% ?k1) (letI i : Nonempty (type_of% ?k1) := ⟨by
      clear HZ d0 d1 e0 e1;obtain ⟨j, hj, rfl, HC⟩ := hrel;by_cases hlt : j < 3
      ·
       obtain ⟨p1, p2, p3, p4, p5⟩ := HC.cells;obtain ⟨vj, p6⟩ := p3 j hlt;have p7 := p4 j;have hjI : (j : Int) < 3 := Om;clear p3 p4;have hmk := run_make_row' (P := Tryz.prog) 25 3 (.int .i64 0) 8 Tryz.underlying25 int_info rfl .i64 .i64 M Om Om;have hcs : (madeCells #[Value.int .i64 0] M).toList = (List.replicate M (0 : Int)).map (Value.int .i64) := by rw [toList_madeCells_one]; simp
       go_wp2
       go_region
       all_goals
        go_wp2;go_roundw
        case rel => exact ⟨j + 1, Om, by go_num, by
         have h := HC.drew.row hlt hM _ hcs;rw [World.setCell_alloc_past _ _ _ _ (show bt < wr.drew.heap.size from p5)] at h;exact h⟩
        case measure => simp [intOf]; omega
      ·
       go_wp2;go_meet;exact HC.fs.mono Om
      ⟩; by exact inferInstanceAs (Nonempty _)) (fun h => h)
   by_cases s6 : sw = 6
   ·
    subst s6;have hle := F4.cx.le;have hgr := F4.hg;have hww := F4.hr;have hmm := F4.hmid;go_wp2;go_meet;refine (show FS R w _ g r gm A n c (k + 1100) l from ⟨none, 0, 0, [], none, 0, 0, [], ((F4.cx.set Om Om 0 _).set Om Om 1 _).mono Om, grow_set (grow_set F4.gr Om 0 _) Om 1 _, heap_kept (heap_kept F4.hz (cur_grown _ gm 0 _) Om) (cur_grown _ gm 1 _) Om, set2_1 (set2_0 F4.hm), Tr.nil_, Tr.nil_, Om, fun j hj => by omega, fun j hj => by omega⟩)
   ·
    go_wp2;go_meet;exact F4.fs.mono Om
   ⟩; by exact inferInstanceAs (Nonempty _)) (fun h => h)
 case rest =>
  exact Nonempty.elim (α := type_of% ?k3) (letI i : Nonempty (type_of% ?k3) := ⟨by
   obtain ⟨A1, n1, p1, G, A2, n2, p2, K, hX, hG, hz, hm, t1, t2, hn, hb1, hb2⟩ := hcut;obtain ⟨⟨c0, c1⟩, f0, f1⟩ := blk2 hm;obtain ⟨⟨z0, z1⟩, y0, y1⟩ := blk2 hz;have hl1 := (Array.getElem?_eq_some_iff.1 hm).1;have hl2 := (Array.getElem?_eq_some_iff.1 hz).1;have hw := Hr.out;have hle := hX.le;have hS : ¬ okB r gm r := fun h => Nat.lt_irrefl _ h.1
   have hS2 : ∀ z, okB r gm z -> w.heap.size <= z := fun z h => by have h1 : r < z := h.1; omega
   go_wp2;refine bodyPost_ret (v := .agg #[.slice A1 n1 p1, .slice A2 n2 p2]) (by simp [results, Tryz.results126, go_sem, z0, z1, y0, y1, hl2]) rfl ?_;exact ⟨A1, n1, p1, G, A2, n2, p2, K, rfl, ((hX.set Om Om 0 _).set Om Om 1 _).mono Om, grow_set (grow_set hG Om 0 _) Om 1 _, ((t1.set hS).set hS).imp hS2, ((t2.set hS).set hS).imp hS2, hn, hb1, hb2⟩
   ⟩; by exact inferInstanceAs (Nonempty _)) (fun h => h)
end Go.Proofs.YtlfhhkgleapamaaGreatDoor
