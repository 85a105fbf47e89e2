/- What the reference draws for the law on deviations: numbers of judges and items, marks. Conditions: none. -/
import Derived.Test.YtlfhhkgleapamaaGreatDoorRDraws
import Derived.Test.YtlfhhkgleapamaaGreatDoorRBase0
import Derived.Deep.RegionHeld3
import Derived.Deep.DeepCutAuto
set_option linter.unusedVariables false
set_option linter.unusedSimpArgs false
set_option maxRecDepth 100000
set_option maxHeartbeats 16000000
namespace Go.Proofs.YtlfhhkgleapamaaGreatDoor
open Go.RowKit
variable {g ty : Nat} {D : OA} {x0 x1 : Value} {w : World}
def zMarks : Obj := .cells #[.slice none 0 0, .slice none 0 0] 31
theorem blk2 (h : w.heap[g]? = some (.cells #[x0, x1] ty (0, 0))) : (w.cell? ⟨g, 0, none⟩ = some x0 /\ w.cell? ⟨g, 1, none⟩ = some x1) /\ w.frozen? ⟨g, 0, none⟩ = false /\ w.frozen? ⟨g, 1, none⟩ = false := by
 refine ⟨⟨?_, ?_⟩, ?_, ?_⟩ <;> simp [World.cell?, World.frozen?, h]
theorem set2_0 {v : Value} (h : w.heap[g]? = some (.cells #[x0, x1] ty (0, 0))) : (w.setCell ⟨g, 0, none⟩ v).heap[g]? = some (.cells #[v, x1] ty (0, 0)) := by
 simp [World.setCell, Array.getElem?_modify, h]
theorem set2_1 {v : Value} (h : w.heap[g]? = some (.cells #[x0, x1] ty (0, 0))) : (w.setCell ⟨g, 1, none⟩ v).heap[g]? = some (.cells #[x0, v] ty (0, 0)) := by
 simp [World.setCell, Array.getElem?_modify, h]
theorem heap_row {w' : World} {b : Nat} {o : Obj} {row : Option Nat} (h : w.heap[b]? = some o) (hg : w.grownBy w' row) (hne : row ≠ some b) : w'.heap[b]? = some o := by
 have hlt := (Array.getElem?_eq_some_iff.1 h).1;rw [hg.block b hlt (fun e => hne e.symm)];exact h
def RetN1 (R w : World) (g : Nat) (A : OA) (n c k : Nat) (l : List Int) (lo hi : Nat) (e : Ending) (w' : World) : Prop := ∃ v : Nat, e = .returned (.int .i64 v) /\ lo <= v /\ v <= hi /\ Cx R w' g A n c k l /\ w.grownBy w' (some g)
theorem judges_any {R : World} {n c k : Nat} {A : OA} {l : List Int} (h : Cx R w g A n c k l) (hk : k <= 1000000) :
  Calls Tryz.prog 176 #[.pointer (some ⟨g, 0, none⟩)] w (RetN1 R w g A n c (k + 2) l 3 9) := by
 go_enter Tryz.func176, Tryz.ntmps176;go_wp2_with fail
 refine (among_lit h Om [3, 3, 4, 5, 5, 7, 9] 7 _ rfl rfl Om Om _ rfl 7).mono ?_;rintro e w1 ⟨v1, hv1, rfl, h1, g1⟩;obtain ⟨v, rfl⟩ : ∃ v : Nat, v1 = v := ⟨v1.toNat, by simp at hv1; omega⟩;have hb : 3 <= v /\ v <= 9 := by simp at hv1; omega
 clear hv1;go_wp2;go_ret;exact ⟨v, rfl, hb.1, hb.2, h1, g1⟩
structure MS (R w W : World) (g r : Nat) (A : OA) (n c k : Nat) (l : List Int) (GA : OA) (gn gc : Nat) (CA : OA) (cn cc : Nat) (gg kk : List (List Int)) (mid hi q : Nat) : Prop where
 cx : Cx R W g A n c k l
 gr : w.grownBy W (some g)
 hr : w.heap.size = r
 hg : g < r
 hz : W.heap[r]? = some zMarks
 hm : W.heap[r + 1]? = some (.cells #[.slice GA gn gc, .slice CA cn cc] 31)
 tg : OwMB (r + 2) mid W GA gn gc gg
 tc : OwMB mid hi W CA cn cc kk
 hmid : r + 2 <= mid /\ mid <= hi /\ hi <= W.heap.size
 rg : ∀ j, j < gn -> (gg[j]?.getD []).length = q
 rc : ∀ j, j < cn -> (kk[j]?.getD []).length = q
section
variable {R w W W' : World} {g r n c k k' : Nat} {A : OA} {l : List Int} {GA : OA} {gn gc : Nat} {CA : OA} {cn cc : Nat} {gg kk : List (List Int)} {mid hi q : Nat}
theorem MS.step (F : MS R w W g r A n c k l GA gn gc CA cn cc gg kk mid hi q) (hX : Cx R W' g A n c k' l) (hg : W.grownBy W' (some g)) : MS R w W' g r A n c k' l GA gn gc CA cn cc gg kk mid hi q := by
 have h1 := F.hmid;have h2 := F.hg;exact ⟨hX, F.gr.trans hg, F.hr, F.hg, heap_kept F.hz hg Om, heap_kept F.hm hg Om, F.tg.kept hg (.inl Om), F.tc.kept hg (.inl Om), ⟨h1.1, h1.2.1, Nat.le_trans h1.2.2 hg.size⟩, F.rg, F.rc⟩
theorem MS.mono (F : MS R w W g r A n c k l GA gn gc CA cn cc gg kk mid hi q) (hk : k <= k') : MS R w W g r A n c k' l GA gn gc CA cn cc gg kk mid hi q :=
 ⟨F.cx.mono hk, F.gr, F.hr, F.hg, F.hz, F.hm, F.tg, F.tc, F.hmid, F.rg, F.rc⟩
theorem MS.fresh (F : MS R w W g r A n c k l GA gn gc CA cn cc gg kk mid hi q) (hg : W.grownBy W' (blkOf D)) (hD : ∀ b, blkOf D = some b -> hi <= b) : MS R w W' g r A n c k l GA gn gc CA cn cc gg kk mid hi q := by
 have h1 := F.hmid;have h2 := F.hg;have h3 := F.hr;have hne : ∀ x, x < hi -> blkOf D ≠ some x := fun x hx e => by have := hD x e; omega
 have hRw := F.cx.le;refine ⟨F.cx.row hg (hne g Om) (fun b hb => by have := hD b hb; omega), grown_new F.gr hg (fun b hb => by have := hD b hb; omega), F.hr, F.hg, heap_row F.hz hg (hne _ Om), heap_row F.hm hg (hne _ Om), ?_, ?_, ⟨h1.1, h1.2.1, Nat.le_trans h1.2.2 hg.size⟩, F.rg, F.rc⟩
 ·
  exact F.tg.keptM (Mid.of_grown (lo := hi) (hi := (blkOf D).elim 0 (· + 1)) hg (fun b hb => ⟨hD b hb, by rw [hb]; exact Nat.lt_succ_self b⟩)) (.inr h1.2.1)
 ·
  exact F.tc.keptM (Mid.of_grown (lo := hi) (hi := (blkOf D).elim 0 (· + 1)) hg (fun b hb => ⟨hD b hb, by rw [hb]; exact Nat.lt_succ_self b⟩)) (.inr (Nat.le_refl _))
theorem MS.cells (F : MS R w W g r A n c k l GA gn gc CA cn cc gg kk mid hi q) : (W.cell? ⟨r + 1, 0, none⟩ = some (.slice GA gn gc) /\ W.cell? ⟨r + 1, 1, none⟩ = some (.slice CA cn cc)) /\ W.frozen? ⟨r + 1, 0, none⟩ = false /\ W.frozen? ⟨r + 1, 1, none⟩ = false := blk2 F.hm
theorem MS.lt (F : MS R w W g r A n c k l GA gn gc CA cn cc gg kk mid hi q) : r + 1 < W.heap.size := (Array.getElem?_eq_some_iff.1 F.hm).1
theorem MS.pushG {m d : Nat} {L : List Int} (F : MS R w W g r A n c k l GA gn gc none 0 0 gg [] hi hi q) (hD : OwI R.heap.size W D m d L) (hm : m = q) (hN : ∀ b, blkOf D = some b -> hi <= b) :
  ∃ xs, Ow 25 1 (r + 2) W GA gn gc xs /\ ∀ (y : World) (A' : OA) (c' : Nat), Ow 25 1 (r + 2) (ext R y) A' (gn + 1) c' (xs ++ [.slice D m d]) -> W.grownBy (ext R y) (blkOf GA) -> (blkOf A' = blkOf GA ∨ ∃ z, blkOf A' = some z /\ W.heap.size < z) ->
   (ext R y).heap[r + 1]? = some (.cells #[.slice GA gn gc, .slice none 0 0] 31) /\ MS R w ((ext R y).setCell ⟨r + 1, 0, none⟩ (.slice A' (gn + 1) c')) g r A n c k l A' (gn + 1) c' none 0 0 (gg ++ [L]) [] (ext R y).heap.size (ext R y).heap.size q := by
 have h1 := F.hmid;have h2 := F.hg;have h3 := F.hr;have hRw := F.cx.le;have hRz : R.heap.size <= g := hRw;obtain ⟨xs, hxs, hnext⟩ := F.tg.push h1.2.2 Om (hD.rebase hN);refine ⟨xs, hxs, fun y A' c' ho hg hd => ?_⟩;have hne : ∀ x, x < r + 2 -> blkOf GA ≠ some x := fun x hx e => by have := (hxs.blk e).1; omega
 have hm1 := heap_row F.hm hg (hne _ Om);have hz1 := heap_row F.hz hg (hne _ Om);have hs := gSetM (ext R y) (r + 1) 0 (.slice A' (gn + 1) c');have hbk : ∀ b, blkOf (some (⟨r + 1, 0, none⟩ : Addr)) = some b -> w.heap.size <= b := fun b hb => by
  have hb : r + 1 = b := by simpa [blkOf] using hb
  omega
 have hsz := hs.size;have hgs := hg.size;have hlen := F.tg.1;have e1 : ((ext R y).setCell ⟨r + 1, 0, none⟩ (.slice A' (gn + 1) c')).heap.size = (ext R y).heap.size := by simp [World.setCell]
 refine ⟨hm1, ⟨(F.cx.row hg (hne g Om) (fun b hb => by have := (hxs.blk hb).1; omega)).row hs (fun e => by injection e; omega) (fun b hb => by injection hb; omega), grown_new (D := some ⟨r + 1, 0, none⟩) (grown_new F.gr hg (fun b hb => by have := (hxs.blk hb).1; omega)) hs hbk, F.hr, F.hg, heap_kept hz1 hs Om, set2_0 hm1, ?_, OwMB.nil_, ⟨Om, Nat.le_refl _, Om⟩, fun j hj => ?_, F.rc⟩⟩
 ·
  exact (hnext _ A' c' ho hg hd).set (.inl Om)
 ·
  by_cases e : j = gn
  ·
   subst e;rw [<- hlen];simp [<- hm, hD.len]
  ·
   rw [List.getElem?_append_left Om];exact F.rg j Om
theorem MS.pushC {m d : Nat} {L : List Int} (F : MS R w W g r A n c k l GA gn gc CA cn cc gg kk mid hi q) (hD : OwI R.heap.size W D m d L) (hm : m = q) (hN : ∀ b, blkOf D = some b -> hi <= b) :
  ∃ xs, Ow 25 1 mid W CA cn cc xs /\ ∀ (y : World) (A' : OA) (c' : Nat), Ow 25 1 mid (ext R y) A' (cn + 1) c' (xs ++ [.slice D m d]) -> W.grownBy (ext R y) (blkOf CA) -> (blkOf A' = blkOf CA ∨ ∃ z, blkOf A' = some z /\ W.heap.size < z) ->
   (ext R y).heap[r + 1]? = some (.cells #[.slice GA gn gc, .slice CA cn cc] 31) /\ MS R w ((ext R y).setCell ⟨r + 1, 1, none⟩ (.slice A' (cn + 1) c')) g r A n c k l GA gn gc A' (cn + 1) c' gg (kk ++ [L]) mid (ext R y).heap.size q := by
 have h1 := F.hmid;have h2 := F.hg;have h3 := F.hr;have hRw := F.cx.le;obtain ⟨xs, hxs, hnext⟩ := F.tc.push h1.2.2 h1.2.1 (hD.rebase hN);refine ⟨xs, hxs, fun y A' c' ho hg hd => ?_⟩;have hb1 : ∀ b, blkOf CA = some b -> mid <= b /\ b < W.heap.size := fun b hb => hxs.blk hb
 have hne : ∀ x, x < r + 2 -> blkOf CA ≠ some x := fun x hx e => by have := (hb1 x e).1; omega
 have hm1 := heap_row F.hm hg (hne _ Om);have hz1 := heap_row F.hz hg (hne _ Om);have hs := gSetM (ext R y) (r + 1) 1 (.slice A' (cn + 1) c');have hbk : ∀ b, blkOf (some (⟨r + 1, 0, none⟩ : Addr)) = some b -> w.heap.size <= b := fun b hb => by
  have hb : r + 1 = b := by simpa [blkOf] using hb
  omega
 have hsz := hs.size;have hgs := hg.size;have hlen := F.tc.1;have e1 : ((ext R y).setCell ⟨r + 1, 1, none⟩ (.slice A' (cn + 1) c')).heap.size = (ext R y).heap.size := by simp [World.setCell]
 have t1 := F.tg.keptM (Mid.of_grown (lo := mid) (hi := W.heap.size) hg hb1) (.inr (Nat.le_refl _));refine ⟨hm1, ⟨(F.cx.row hg (hne g Om) (fun b hb => by have := (hxs.blk hb).1; omega)).row hs (fun e => by injection e; omega) (fun b hb => by injection hb; omega), grown_new (D := some ⟨r + 1, 0, none⟩) (grown_new F.gr hg (fun b hb => by have := (hxs.blk hb).1; omega)) hs hbk, F.hr, F.hg, heap_kept hz1 hs Om, set2_1 hm1, t1.set (.inl Om), (hnext _ A' c' ho hg hd).set (.inl Om), ⟨h1.1, Om, Om⟩, F.rg, fun j hj => ?_⟩⟩;by_cases e : j = cn
 ·
  subst e;rw [<- hlen];simp [<- hm, hD.len]
 ·
  rw [List.getElem?_append_left Om];exact F.rc j Om
end
def RetMs (R w : World) (g : Nat) (A : OA) (n c k : Nat) (l : List Int) (N : Nat) (e : Ending) (w' : World) : Prop := ∃ (GA : OA) (gc : Nat) (CA : OA) (cc : Nat) (gg kk : List (List Int)) (mid q : Nat), e = .returned (.agg #[.slice GA N gc, .slice CA 3 cc]) /\ (3 <= q /\ q <= 9) /\ Cx R w' g A n c k l /\ OwMB (w.heap.size + 1) mid w' GA N gc gg /\ OwMB mid w'.heap.size w' CA 3 cc kk /\ (w.heap.size + 1 <= mid /\ mid <= w'.heap.size) /\ (∀ j, j < N -> (gg[j]?.getD []).length = q) /\ (∀ j, j < 3 -> (kk[j]?.getD []).length = q) /\ w.grownBy w' (some g)
theorem zM2 (w : World) : ((w.alloc zMarks).alloc zMarks).heap[w.heap.size]? = some zMarks /\ ((w.alloc zMarks).alloc zMarks).heap[w.heap.size + 1]? = some zMarks /\ ((w.alloc zMarks).alloc zMarks).heap.size = w.heap.size + 2 := by
 have h1 := heap_old (heap_alloc_new w zMarks) (bAlloc (Below.refl _ (w.alloc zMarks)) zMarks);have h2 := heap_alloc_new (w.alloc zMarks) zMarks;rw [show (w.alloc zMarks).heap.size = w.heap.size + 1 by simp] at h2;exact ⟨h1, h2, by simp⟩
theorem marks_any {R : World} {n c k : Nat} {A : OA} {l : List Int} (h : Cx R w g A n c k l) (hk : k <= 1000000) (N : Nat) (hN : N <= 15) :
  Calls Tryz.prog 125 #[.pointer (some ⟨g, 0, none⟩), .int .i64 N] w (RetMs R w g A n c (k + 1000) l N) := by
 have hgw := h.cur.lt;go_enter Tryz.func125, Tryz.ntmps125;go_wp2_with fail
 have hz := zM2 w;have hB := bAlloc (bAlloc (Below.refl w.heap.size w) zMarks) zMarks;have h0 : Cx R ((w.alloc zMarks).alloc zMarks) g A n c k l := h.below hB;have g0 : w.grownBy ((w.alloc zMarks).alloc zMarks) (some g) := grownBy_of_below hB;simp only [zMarks] at hz h0 g0;clear hB;generalize hrr : w.heap.size = r at *;have Hr := Lib.hid hrr;clear hrr;generalize (w.alloc (.cells #[.slice none 0 0, .slice none 0 0] 31)).alloc (.cells #[.slice none 0 0, .slice none 0 0] 31) = W0 at *;obtain ⟨hz1, hz2, hsz⟩ := hz;refine (judges_any h0 Om).mono ?_;rintro e w1 ⟨q, rfl, hq1, hq2, h1, g1⟩;have F1 : MS R w w1 g r A n c (k + 2) l none 0 0 none 0 0 [] [] (r + 2) (r + 2) q := by
  have := g1.size;exact ⟨h1, g0.trans g1, Hr.out, hgw, heap_kept hz1 g1 Om, heap_kept hz2 g1 Om, OwMB.nil_, OwMB.nil_, ⟨Nat.le_refl _, Nat.le_refl _, Om⟩, fun j hj => by omega, fun j hj => by omega⟩
 clear hz1 hz2 hsz h0 g0 h1 g1;go_wp2_with fail
 go_loopg [7, 8] N (fun gk _ _ wr => ∃ (i : Nat) (GA : OA) (gc : Nat) (gg : List (List Int)) (hi : Nat), i + gk <= N /\ N <= i + gk /\ MS R w wr g r A n c (k + 2 + 20 * i) l GA i gc none 0 0 gg [] hi hi q)
 case atStart => exact ⟨0, none, 0, [], _, Om, Om, F1⟩
 case round =>
        as_aux_lemma =>
  clear F1;obtain ⟨i, GA, gc, gg, hi, hi1, hi2, F⟩ := hrel;obtain ⟨⟨c0, c1⟩, f0, f1⟩ := F.cells;have hlt := F.lt;by_cases hlt2 : i < N
  ·
   have hltI : (i : Int) < N := Om;go_wp2_with fail
   refine (pick_cx F.cx 7 Om Om Om).mono ?_;intro e w2 hp;obtain ⟨v2, ⟨ha0, ha1⟩, rfl, h2, g2⟩ := F.cx.pick hp;have F2 := F.step h2 g2;clear hp F h2 g2 c0 c1 f0 f1 hlt;go_wp2_with fail
   go_loopw [8] (fun v wr => ∃ (j : Nat) (D : OA) (z : Nat) (L : List Int), j <= q /\ v = .slice D j z /\ MS R w wr g r A n c (k + 2 + 20 * i + 2 + 2 * j) l GA i gc none 0 0 gg [] hi hi q /\ OwI R.heap.size wr D j z L /\ ∀ b, blkOf D = some b -> hi <= b) (fun v _ => match v with | .slice _ j _ => q - j | _ => 0)
   case atStart => exact ⟨0, none, 0, [], Om, rfl, F2, OwI.nil_, fun b hb => by cases hb⟩
   case round => as_aux_lemma =>
    clear F2;obtain ⟨j, D, z, L, hj, rfl, F3, oD, hD⟩ := hrel;have hmid := F3.hmid;have hgr := F3.hg;have hneg : blkOf D = none ∨ blkOf D ≠ some g := by
     cases hb : blkOf D with
     | none => exact .inl rfl
     | some b => exact .inr fun e => by have := hD b hb; injection e with e; omega
    by_cases hjq : j < q
    ·
     have hjI : (j : Int) < q := Om;go_wp2_with fail
     refine (pick_cx F3.cx 4 Om Om Om).mono ?_;intro e w4 hp;obtain ⟨v4, ⟨hb0, hb1⟩, rfl, h4, g4⟩ := F3.cx.pick hp;have F4 := F3.step h4 g4;have o4 := oD.kept g4 hneg;have hB4 := h4.bel;have hjb : j <= 1099511627776 := Om;have hs4 := F4.hmid;clear hp F3 h4 g4 oD;go_wp2_with (first | (go_at_call 124; (with_reducible refine ep (l1Least_any _ _ _) ?_)) | (go_at_call 143; (with_reducible refine ep (l1Most_any _ _ _) ?_)) | (at_builtin; (refine wpl_push_int R _ _ _ ?_ rfl _ _ rfl D j z _ rfl o4 ?_ ?_ rfl hjb ?_); (focus (first | rfl | (simp; done))); exact bL; exact bL; intro D' z' y6 o6 hga hda))
     have F5 := F4.fresh hga hD;have hD' : ∀ b, blkOf D' = some b -> hi <= b := fun b hb => by
      rcases hda with hda | ⟨x, hda, hx⟩
      ·
       exact hD b (by rw [<- hda]; exact hb)
      ·
       rw [hda] at hb; injection hb with hb; omega
     go_roundw
     case rel => exact ⟨j + 1, D', z', _, Om, rfl, F5.mono Om, o6, hD'⟩
     case measure => simp; omega
    ·
     obtain rfl : j = q := Om;obtain ⟨⟨c0, c1⟩, f0, f1⟩ := F3.cells;have hlt := F3.lt;obtain ⟨xs, hxs, hnext⟩ := F3.pushG oD rfl hD;have hB3 := F3.cx.bel;have hbase : R.heap.size <= r + 2 := by have := F3.cx.le; omega
     have hbW : r + 2 <= wr.heap.size := Om;have hib : i <= 1099511627776 := Om;go_wp2_with (at_builtin; (refine wpl_push_row R _ _ _ _ _ ?_ rfl _ _ rfl GA i gc xs rfl hbase hbW hxs ?_ ?_ rfl hib ?_); (focus (first | rfl | (simp; done))); exact bL; exact bL; intro A' c' y o6 hga hda; obtain ⟨hm1, F6⟩ := hnext y A' c' o6 hga hda; obtain ⟨⟨d0, d1⟩, e0, e1⟩ := blk2 hm1; have hlt6 := (Array.getElem?_eq_some_iff.1 hm1).1)
     go_roundg (gk - 1)
     case measure => omega
     case rel => exact ⟨i + 1, A', c', _, _, Om, Om, F6.mono Om⟩
  ·
   obtain rfl : i = N := Om;go_wp2_with fail
   go_loopg [9, 10] 3 (fun gk _ _ wr => ∃ (s : Nat) (CA : OA) (cc : Nat) (kk : List (List Int)) (hi2 : Nat), s + gk <= 3 /\ 3 <= s + gk /\ MS R w wr g r A n c (k + 2 + 20 * i + 20 * s) l GA i gc CA s cc gg kk hi hi2 q)
   case atStart => exact ⟨0, none, 0, [], _, Om, Om, F⟩
   case round => as_aux_lemma =>
    clear F c0 c1 f0 f1 hlt;obtain ⟨s, CA, cc, kk, hi2, hs1, hs2, F⟩ := hrel;obtain ⟨⟨c0, c1⟩, f0, f1⟩ := F.cells;have hlt := F.lt;by_cases hlt3 : s < 3
    ·
     have hltI : (s : Int) < 3 := Om;go_wp2_with fail
     refine (pick_cx F.cx 37 Om Om Om).mono ?_;intro e w2 hp;obtain ⟨v2, ⟨ha0, ha1⟩, rfl, h2, g2⟩ := F.cx.pick hp;have F2 := F.step h2 g2;clear hp F h2 g2 c0 c1 f0 f1 hlt;go_wp2_with fail
     go_loopw [10] (fun v wr => ∃ (j : Nat) (D : OA) (z : Nat) (L : List Int), j <= q /\ v = .slice D j z /\ MS R w wr g r A n c (k + 2 + 20 * i + 20 * s + 2 + 2 * j) l GA i gc CA s cc gg kk hi hi2 q /\ OwI R.heap.size wr D j z L /\ ∀ b, blkOf D = some b -> hi2 <= b) (fun v _ => match v with | .slice _ j _ => q - j | _ => 0)
     case atStart => exact ⟨0, none, 0, [], Om, rfl, F2, OwI.nil_, fun b hb => by cases hb⟩
     case round => as_aux_lemma =>
      clear F2;obtain ⟨j, D, z, L, hj, rfl, F3, oD, hD⟩ := hrel;have hmid := F3.hmid;have hgr := F3.hg;have hneg : blkOf D = none ∨ blkOf D ≠ some g := by
       cases hb : blkOf D with
       | none => exact .inl rfl
       | some b => exact .inr fun e => by have := hD b hb; injection e with e; omega
      by_cases hjq : j < q
      ·
       have hjI : (j : Int) < q := Om;go_wp2_with fail
       refine (pick_cx F3.cx 4 Om Om Om).mono ?_;intro e w4 hp;obtain ⟨v4, ⟨hb0, hb1⟩, rfl, h4, g4⟩ := F3.cx.pick hp;have F4 := F3.step h4 g4;have o4 := oD.kept g4 hneg;have hB4 := h4.bel;have hjb : j <= 1099511627776 := Om;have hs4 := F4.hmid;clear hp F3 h4 g4 oD;go_wp2_with ((at_builtin; (refine wpl_push_int R _ _ _ ?_ rfl _ _ rfl D j z _ rfl o4 ?_ ?_ rfl hjb ?_); (focus (first | rfl | (simp; done))); exact bL; exact bL; intro D' z' y6 o6 hga hda))
       have F5 := F4.fresh hga hD;have hD' : ∀ b, blkOf D' = some b -> hi2 <= b := fun b hb => by
        rcases hda with hda | ⟨x, hda, hx⟩
        ·
         exact hD b (by rw [<- hda]; exact hb)
        ·
         rw [hda] at hb; injection hb with hb; omega
       go_roundw
       case rel => exact ⟨j + 1, D', z', _, Om, rfl, F5.mono Om, o6, hD'⟩
       case measure => simp; omega
      ·
       obtain rfl : j = q := Om;obtain ⟨⟨c0, c1⟩, f0, f1⟩ := F3.cells;have hlt := F3.lt;obtain ⟨xs, hxs, hnext⟩ := F3.pushC oD rfl hD;have hB3 := F3.cx.bel;have hbase : R.heap.size <= hi := by have := F3.cx.le; omega
       have hbW : hi <= wr.heap.size := Om;have hib : s <= 1099511627776 := Om;go_wp2_with (at_builtin; (refine wpl_push_row R _ _ _ _ _ ?_ rfl _ _ rfl CA s cc xs rfl hbase hbW hxs ?_ ?_ rfl hib ?_); (focus (first | rfl | (simp; done))); exact bL; exact bL; intro A' c' y o6 hga hda; obtain ⟨hm1, F6⟩ := hnext y A' c' o6 hga hda; obtain ⟨⟨d0, d1⟩, e0, e1⟩ := blk2 hm1; have hlt6 := (Array.getElem?_eq_some_iff.1 hm1).1)
       go_roundg (gk - 1)
       case measure => omega
       case rel => exact ⟨s + 1, A', c', _, _, Om, Om, F6.mono Om⟩
    ·
     obtain rfl : s = 3 := Om;obtain ⟨⟨z0, z1⟩, y0, y1⟩ := blk2 F.hz;have hlr : r < wr.heap.size := Om;have hmid := F.hmid;have hgr := F.hg;have hle := F.cx.le;go_wp2;refine bodyPost_ret (v := .agg #[.slice GA i gc, .slice CA 3 cc]) (by simp [results, Tryz.results125, go_sem, z0, z1, y0, y1, hlr]) rfl ?_;have hw := Hr.out;have e1 : ∀ (U : World) (a : Addr) (v : Value), (U.setCell a v).heap.size = U.heap.size := fun U a v => by simp [World.setCell]
     refine ⟨GA, gc, CA, cc, gg, kk, hi, q, rfl, ⟨hq1, hq2⟩, (((F.cx.set Om Om 0 _).set Om Om 1 _).mono Om), ((F.tg.mono Om (Nat.le_refl _)).set (.inl Om)).set (.inl Om), ?_, ?_, F.rg, F.rc, grow_set (grow_set F.gr Om 0 _) Om 1 _⟩
     ·
      exact (((F.tc.mono (Nat.le_refl _) (by rw [e1, e1]; omega)).set (.inl Om)).set (.inl Om))
     ·
      rw [e1, e1]; omega
end Go.Proofs.YtlfhhkgleapamaaGreatDoor
