/- What the reference draws of items: any item, any items. Conditions: none. -/
import Derived.Test.YtlfhhkgleapamaaGreatDoorRDrs
import Derived.Test.YtlfhhkgleapamaaGreatDoorRStrs0
import Derived.Deep.CutBlock
import Derived.Deep.DeepCutAuto
set_option linter.unusedVariables false
set_option linter.unusedSimpArgs false
set_option maxRecDepth 100000
set_option maxHeartbeats 16000000
namespace Go.Proofs.YtlfhhkgleapamaaGreatDoor
open Go.RowKit
variable {l : List Int} {c g k m n : Nat} {A : OA} {R w : World}
structure JB (R w W : World) (g b : Nat) (A : OA) (n c k : Nat) (l : List Int) (NA : OA) (nn nc : Nat) (MA : OA) (mn mc : Nat) (lt : Bool) : Prop where
 cx : Cx R W g A n c k l
 gr : w.grownBy W (some g)
 hr : w.heap.size <= b
 hg : g < w.heap.size
 hb : W.heap[b]? = some (.cells #[.slice NA nn nc, .slice MA mn mc, .bool lt] 61)
 oN : ∃ nl, OwT w.heap.size W NA nn nc nl /\ ∀ x ∈ nl, x.size <= 100
 oM : ∃ ml, OwI w.heap.size W MA mn mc ml
 ne : blkOf NA = none ∨ blkOf NA ≠ blkOf MA
 nN : blkOf NA ≠ some b
 nM : blkOf MA ≠ some b
section
variable {R w W W' : World} {g b n c k k' : Nat} {A : OA} {l : List Int} {NA : OA} {nn nc : Nat} {MA : OA} {mn mc : Nat} {lt : Bool}
theorem JB.nNg (F : JB R w W g b A n c k l NA nn nc MA mn mc lt) : blkOf NA ≠ some g := fun e => by
 obtain ⟨nl, o1, s1⟩ := F.oN;have := (o1.blk e).1;have := F.hg;omega
theorem JB.nMg (F : JB R w W g b A n c k l NA nn nc MA mn mc lt) : blkOf MA ≠ some g := fun e => by
 obtain ⟨ml, o2⟩ := F.oM;have := (o2.blk e).1;have := F.hg;omega
theorem JB.step (F : JB R w W g b A n c k l NA nn nc MA mn mc lt) (hX : Cx R W' g A n c k' l) (hg : W.grownBy W' (some g)) : JB R w W' g b A n c k' l NA nn nc MA mn mc lt := by
 have h1 := F.hr;have h2 := F.hg;obtain ⟨nl, o1, s1⟩ := F.oN;obtain ⟨ml, o2⟩ := F.oM;exact ⟨hX, F.gr.trans hg, F.hr, F.hg, heap_kept F.hb hg Om, ⟨nl, o1.kept hg (.inr F.nNg), s1⟩, ⟨ml, o2.kept hg (.inr F.nMg)⟩, F.ne, F.nN, F.nM⟩
theorem JB.below (F : JB R w W g b A n c k l NA nn nc MA mn mc lt) (hb : Below W.heap.size W W') : JB R w W' g b A n c k l NA nn nc MA mn mc lt := F.step (F.cx.below hb) (grownBy_of_below hb)
theorem JB.mono (F : JB R w W g b A n c k l NA nn nc MA mn mc lt) (hk : k <= k') : JB R w W g b A n c k' l NA nn nc MA mn mc lt := ⟨F.cx.mono hk, F.gr, F.hr, F.hg, F.hb, F.oN, F.oM, F.ne, F.nN, F.nM⟩
theorem JB.cells (F : JB R w W g b A n c k l NA nn nc MA mn mc lt) : (W.cell? ⟨b, 0, none⟩ = some (.slice NA nn nc) /\ W.cell? ⟨b, 1, none⟩ = some (.slice MA mn mc) /\ W.cell? ⟨b, 2, none⟩ = some (.bool lt)) /\ W.frozen? ⟨b, 0, none⟩ = false /\ W.frozen? ⟨b, 1, none⟩ = false /\ W.frozen? ⟨b, 2, none⟩ = false := blk3 F.hb
theorem JB.lt_ (F : JB R w W g b A n c k l NA nn nc MA mn mc lt) : b < W.heap.size := (Array.getElem?_eq_some_iff.1 F.hb).1
theorem JB.le (F : JB R w W g b A n c k l NA nn nc MA mn mc lt) : w.heap.size <= W.heap.size := F.gr.size
theorem JB.grown {D : OA} (F : JB R w W g b A n c k l NA nn nc MA mn mc lt) (hg : W.grownBy W' (blkOf D)) (hD : ∀ z, blkOf D = some z -> w.heap.size <= z /\ z ≠ b) : Cx R W' g A n c k l /\ w.grownBy W' (some g) /\ W'.heap[b]? = some (.cells #[.slice NA nn nc, .slice MA mn mc, .bool lt] 61) := by
 have h2 := F.hg;have hle := F.cx.le;exact ⟨F.cx.row hg (fun e => by have := (hD g e).1; omega) (fun z hz => by have := (hD z hz).1; omega), grown_new F.gr hg (fun z hz => (hD z hz).1), heap_row F.hb hg (fun e => (hD b e).2 rfl)⟩
theorem JB.pushN (F : JB R w W g b A n c k l NA nn nc MA mn mc lt) : ∃ nl, OwT w.heap.size W NA nn nc nl /\ ∀ (A' : OA) (c' : Nat) (W' : World) (s : BA), s.size <= 100 -> OwT w.heap.size W' A' (nn + 1) c' (nl ++ [s]) -> W.grownBy W' (blkOf NA) -> (blkOf A' = blkOf NA ∨ blkOf A' = some W.heap.size) ->
  (W'.heap[b]? = some (.cells #[.slice NA nn nc, .slice MA mn mc, .bool lt] 61)) /\ JB R w (W'.setCell ⟨b, 0, none⟩ (.slice A' (nn + 1) c')) g b A n c k l A' (nn + 1) c' MA mn mc lt := by
 obtain ⟨nl, o1, s1⟩ := F.oN;obtain ⟨ml, o2⟩ := F.oM;refine ⟨nl, o1, fun A' c' W' s hs ho hg hd => ?_⟩;obtain ⟨f1, f2, f3⟩ := F.grown hg (fun z hz => ⟨(o1.blk hz).1, fun e => F.nN (e ▸ hz)⟩);have hle := F.cx.le;have hr := F.hr;have hgb := F.hg;have hbW := F.lt_;have hset := gSetM W' b 0 (.slice A' (nn + 1) c');have hz1 : blkOf A' ≠ some b := fun e => by
  rcases hd with hd | hd
  ·
   exact F.nN (hd ▸ e)
  ·
   rw [hd] at e; injection e with e; omega
 have o2' : OwI w.heap.size W' MA mn mc ml := o2.kept hg (by
  cases hz : blkOf MA with
  | none => exact .inl rfl
  | some z =>
   exact .inr fun e => by
    rcases F.ne with h | h
    ·
     rw [h] at e; cases e
    ·
     rw [hz] at h; exact h e.symm)
 refine ⟨f3, ⟨f1.set (by have := F.le; omega) Om 0 _, grow_set f2 Om 0 _, F.hr, F.hg, set3_0 f3, ⟨_, ho.kept hset (.inr hz1), fun x hx => ?_⟩, ⟨ml, o2'.kept hset (.inr F.nM)⟩, ?_, hz1, F.nM⟩⟩
 ·
  rcases List.mem_append.1 hx with hx | hx
  ·
   exact s1 x hx
  ·
   simp at hx; subst hx; exact hs
 ·
  rcases hd with hd | hd
  ·
   rw [hd]; exact F.ne
  ·
   refine .inr fun e => ?_
   rw [hd] at e;have := (o2.blk e.symm).2;omega
theorem JB.pushM (F : JB R w W g b A n c k l NA nn nc MA mn mc lt) : ∃ ml, OwI w.heap.size W MA mn mc ml /\ ∀ (A' : OA) (c' : Nat) (W' : World) (L : List Int), OwI w.heap.size W' A' (mn + 1) c' L -> W.grownBy W' (blkOf MA) -> (blkOf A' = blkOf MA ∨ blkOf A' = some W.heap.size) ->
  (W'.heap[b]? = some (.cells #[.slice NA nn nc, .slice MA mn mc, .bool lt] 61)) /\ JB R w (W'.setCell ⟨b, 1, none⟩ (.slice A' (mn + 1) c')) g b A n c k l NA nn nc A' (mn + 1) c' lt := by
 obtain ⟨nl, o1, s1⟩ := F.oN;obtain ⟨ml, o2⟩ := F.oM;refine ⟨ml, o2, fun A' c' W' L ho hg hd => ?_⟩;obtain ⟨f1, f2, f3⟩ := F.grown hg (fun z hz => ⟨(o2.blk hz).1, fun e => F.nM (e ▸ hz)⟩);have hle := F.cx.le;have hr := F.hr;have hgb := F.hg;have hbW := F.lt_;have hset := gSetM W' b 1 (.slice A' (mn + 1) c');have hz1 : blkOf A' ≠ some b := fun e => by
  rcases hd with hd | hd
  ·
   exact F.nM (hd ▸ e)
  ·
   rw [hd] at e; injection e with e; omega
 have o1' : OwT w.heap.size W' NA nn nc nl := o1.kept hg F.ne;refine ⟨f3, ⟨f1.set (by have := F.le; omega) Om 1 _, grow_set f2 Om 1 _, F.hr, F.hg, set3_1 f3, ⟨_, o1'.kept hset (.inr F.nN), s1⟩, ⟨_, ho.kept hset (.inr hz1)⟩, ?_, F.nN, hz1⟩⟩
 rcases hd with hd | hd
 ·
  rw [hd]; exact F.ne
 ·
  cases hz : blkOf NA with
  | none => exact .inl rfl
  | some z =>
   exact .inr fun e => by
    rw [hd] at e;injection e with e;have := (o1.blk hz).2;omega
theorem JB.setN (F : JB R w W g b A n c k l NA nn nc MA mn mc lt) (h1 : 1 <= nn) : ∃ z, NA = some ⟨z, 0, none⟩ /\ z < W.heap.size /\ W.frozen? ⟨z, 0, none⟩ = false /\ (∃ v, W.cell? ⟨z, 0, none⟩ = some v) /\ ∀ s : BA, s.size <= 100 -> JB R w (W.setCell ⟨z, 0, none⟩ (.string s)) g b A n c k l NA nn nc MA mn mc lt := by
 obtain ⟨nl, o1, s1⟩ := F.oN;obtain ⟨ml, o2⟩ := F.oM;obtain ⟨z, rfl, hz1, hz2⟩ := o1.form_ h1;refine ⟨z, rfl, hz2, o1.frozen_ 0, ⟨_, o1.cell_ 0 h1⟩, fun s hs => ?_⟩;have hset := gSetM W z 0 (.string s);have hzg : z ≠ g := fun e => F.nNg (by rw [e]; rfl)
 have hzb : z ≠ b := fun e => F.nN (by rw [e]; rfl)
 have hle := F.cx.le;refine ⟨F.cx.set (by have := F.cx.bel.size; have := F.hg; have := F.le; omega) hzg 0 _, grow_set F.gr hz1 0 _, F.hr, F.hg, heap_row F.hb hset (fun e => by injection e with e; exact hzb e), ⟨_, (o1.stored_ 0 s).1, fun x hx => ?_⟩, ⟨ml, o2.kept hset ?_⟩, F.ne, F.nN, F.nM⟩
 ·
  rcases List.mem_or_eq_of_mem_set hx with hx | rfl
  ·
   exact s1 x hx
  ·
   exact hs
 ·
  rcases F.ne with h | h
  ·
   cases h
  ·
   exact .inr fun e => h e.symm
theorem JB.setM (F : JB R w W g b A n c k l NA nn nc MA mn mc lt) (h1 : 1 <= mn) : ∃ z, MA = some ⟨z, 0, none⟩ /\ z < W.heap.size /\ W.frozen? ⟨z, 0, none⟩ = false /\ (∃ v, W.cell? ⟨z, 0, none⟩ = some v) /\ ∀ s : Int, JB R w (W.setCell ⟨z, 0, none⟩ (.int .i64 s)) g b A n c k l NA nn nc MA mn mc lt := by
 obtain ⟨nl, o1, s1⟩ := F.oN;obtain ⟨ml, o2⟩ := F.oM;obtain ⟨z, rfl, hz1, hz2⟩ := o2.form_ h1;refine ⟨z, rfl, hz2, o2.frozen_ 0, ⟨_, o2.cell_ 0 h1⟩, fun s => ?_⟩;have hset := gSetM W z 0 (.int .i64 s);have hzg : z ≠ g := fun e => F.nMg (by rw [e]; rfl)
 have hzb : z ≠ b := fun e => F.nM (by rw [e]; rfl)
 have hle := F.cx.le;exact ⟨F.cx.set (by have := F.cx.bel.size; have := F.hg; have := F.le; omega) hzg 0 _, grow_set F.gr hz1 0 _, F.hr, F.hg, heap_row F.hb hset (fun e => by injection e with e; exact hzb e), ⟨_, o1.kept hset F.ne, s1⟩, ⟨_, (o2.stored_ 0 s).1⟩, F.ne, F.nN, F.nM⟩
theorem JB.zero (F : JB R w W g b A n c k l NA nn nc MA mn mc lt) : JB R w (((W.setCell ⟨b, 0, none⟩ (.slice none 0 0)).setCell ⟨b, 1, none⟩ (.slice none 0 0)).setCell ⟨b, 2, none⟩ (.bool false)) g b A n c k l none 0 0 none 0 0 false := by
 have h1 := F.hr;have h2 := F.hg;have hle := F.cx.le;have h3 := F.cx.bel.size;have h4 := F.le;refine ⟨((F.cx.set Om Om 0 _).set Om Om 1 _).set Om Om 2 _, grow_set (grow_set (grow_set F.gr Om 0 _) Om 1 _) Om 2 _, F.hr, F.hg, ?_, ⟨[], OwT.nil_, fun x hx => by cases hx⟩, ⟨[], OwI.nil_⟩, .inl rfl, (fun e => by cases e), fun e => by cases e⟩;have := set3_1 (v := .slice none 0 0) (set3_0 (v := .slice none 0 0) F.hb);simp [World.setCell, Array.getElem?_modify, F.hb]
theorem JB.toCa {w0 : World} {u : Nat} (F : JB R w W g b A n c k l NA nn nc MA mn mc lt) (gg : w0.grownBy w (some g)) (hsz : w0.heap.size + 1 <= w.heap.size) (hgw : g < w0.heap.size) (hk : k <= k') (h1 : m <= nn) (h2 : m <= mn) (h3 : nn <= u) (h4 : mn <= u) (hu : u <= 10) :
  RetCa R w0 g A n c k' l m u (.returned (.agg #[.slice NA nn nc, .slice MA mn mc, .bool lt])) (((W.setCell ⟨w0.heap.size, 0, none⟩ (.slice NA nn nc)).setCell ⟨w0.heap.size, 1, none⟩ (.slice MA mn mc)).setCell ⟨w0.heap.size, 2, none⟩ (.bool lt)) := by
 have hr := F.hr;have hg := F.hg;obtain ⟨nl, o1, s1⟩ := F.oN;obtain ⟨ml, o2⟩ := F.oM;have hle := F.cx.le;have hbs := F.cx.bel.size;have hlw := F.le;refine ⟨NA, nn, nc, MA, mn, mc, lt, rfl, (((F.cx.set Om Om 0 _).set Om Om 1 _).set Om Om 2 _).mono hk, grow_set (grow_set (grow_set (gg.trans F.gr) (Nat.le_refl _) 0 _) (Nat.le_refl _) 1 _) (Nat.le_refl _) 2 _, ⟨⟨nl, ?_, s1⟩, ⟨ml, ?_⟩, F.ne, ⟨h1, h2⟩, Om, Om⟩, h3, h4⟩
 ·
  exact (((o1.setLow Om).setLow Om).setLow Om).mono Om
 ·
  exact (((o2.setLow Om).setLow Om).setLow Om).mono Om
theorem JB.ofCa {W0 : World} (hB : Below w.heap.size w W0) (hX : Cx R W g A n c k l) (g2 : W0.grownBy W (some g)) (hI : ItO W0.heap.size m W NA nn nc MA mn mc) (hg : g < w.heap.size) :
  JB R w (W.alloc (.cells #[.slice NA nn nc, .slice MA mn mc, .bool lt] 61)) g W.heap.size A n c k l NA nn nc MA mn mc lt := by
 obtain ⟨⟨nl, o1, s1⟩, ⟨ml, o2⟩, hne, h1, h2⟩ := hI;have hB2 := bAlloc (Below.refl W.heap.size W) (.cells #[.slice NA nn nc, .slice MA mn mc, .bool lt] 61);have hz1 := hB.size;have hz2 := g2.size;exact ⟨hX.below hB2, ((grownBy_of_below hB).trans g2).trans (grownBy_of_below hB2), Om, hg, heap_alloc_new W _, ⟨nl, (o1.below hB2).mono hz1, s1⟩, ⟨ml, (o2.below hB2).mono hz1⟩, hne, fun e => by have := (o1.blk e).2; omega, fun e => by have := (o2.blk e).2; omega⟩
theorem ItO.kept {t : Nat} {row : Option Nat} (h : ItO t m W NA nn nc MA mn mc) (hg : W.grownBy W' row) (hr : ∀ b, row = some b -> b < t) : ItO t m W' NA nn nc MA mn mc := by
 obtain ⟨⟨nl, o1, s1⟩, ⟨ml, o2⟩, h3⟩ := h;refine ⟨⟨nl, o1.kept hg ?_, s1⟩, ⟨ml, o2.kept hg ?_⟩, h3⟩
 ·
  cases hz : blkOf NA with
  | none => exact .inl rfl
  | some z => exact .inr fun e => by have := (o1.blk hz).1; have := hr z e.symm; omega
 ·
  cases hz : blkOf MA with
  | none => exact .inl rfl
  | some z => exact .inr fun e => by have := (o2.blk hz).1; have := hr z e.symm; omega
theorem ItO.below {t : Nat} (h : ItO t m W NA nn nc MA mn mc) (hb : Below W.heap.size W W') : ItO t m W' NA nn nc MA mn mc := h.kept (row := none) (grownBy_of_below hb) (fun b e => by cases e)
def FJ (R w W : World) (g b : Nat) (A : OA) (n c k : Nat) (l : List Int) : Prop := ∃ NA nn nc MA mn mc lt, JB R w W g b A n c k l NA nn nc MA mn mc lt /\ nn <= 10 /\ mn <= 10
end
theorem of_litD {W : World} (h : Cx R W g A n c k l) (hk : k <= 1000000) (L : List BA) (m : Nat) (b : Nat) (hb : b = W.heap.size) (hm : m = L.length) (hm1 : 1 <= m) (hm2 : m <= 1000) (cs : Array Value) (hcs : cs.toList = L.map Value.string) (d : Nat) :
  Calls Tryz.prog 145 #[.pointer (some ⟨g, 0, none⟩), .slice (some ⟨b, 0, none⟩) m d] (W.alloc (.cells cs 9)).drew (RetOf R W g A n c (k + 2) l L) := by
 subst hb hm;have hB := bDrew (bAlloc (Below.refl _ W) (.cells cs 9));have ho := OwT.lit_ (R := W) (Below.refl _ W) L (by simp only [maxLen]; omega) cs hcs;refine (of_any (h.below hB) hk (some ⟨W.heap.size, 0, none⟩) L.length d L (RdT.below ho.rd (bDrew bR)) (fun z hz e => ?_) hm1 hm2).mono ?_
 ·
  have := h.cur.lt;simp [blkOf] at hz;omega
 ·
  rintro e w' ⟨s, h1, h2, h3, h4⟩;exact ⟨s, h1, h2, h3, (grownBy_of_below hB).trans h4⟩
theorem anyItem_any (h : Cx R w g A n c k l) (hk : k <= 800000) :
  Calls Tryz.prog 218 #[.pointer (some ⟨g, 0, none⟩)] w (RetCa R w g A n c (k + 60) l 0 10) := by
 have hgl := h.cur.lt;have h0 := h.below (bAlloc (Below.refl _ w) zItm);have z0 := heap_alloc_new w zItm;have gg0 := World.grownBy_alloc w zItm (some g);have hsz0 : (w.alloc zItm).heap.size = w.heap.size + 1 := by simp
 go_enter Tryz.func218, Tryz.ntmps218;simp only [zItm] at h0 z0 gg0 hsz0;go_wp2_with fail
 generalize w.alloc (.cells #[.slice none 0 0, .slice none 0 0, .bool false] 61) = w1 at *;have hB := bAlloc (Below.refl _ w1) (.cells #[.string ⟨#[51, 65]⟩, .string ⟨#[50, 84]⟩, .string ⟨#[52, 83]⟩, .string ⟨#[67, 67, 79, 83, 80]⟩, .string ⟨#[83, 84]⟩, .string ⟨#[65]⟩, .string ⟨#[48]⟩] 9);have ho := OwT.lit_ (R := w1) (Below.refl _ w1) [⟨#[51, 65]⟩, ⟨#[50, 84]⟩, ⟨#[52, 83]⟩, ⟨#[67, 67, 79, 83, 80]⟩, ⟨#[83, 84]⟩, ⟨#[65]⟩, ⟨#[48]⟩] (by simp [maxLen]) #[.string ⟨#[51, 65]⟩, .string ⟨#[50, 84]⟩, .string ⟨#[52, 83]⟩, .string ⟨#[67, 67, 79, 83, 80]⟩, .string ⟨#[83, 84]⟩, .string ⟨#[65]⟩, .string ⟨#[48]⟩] rfl;have hor := ho.rd;rw [hsz0] at hor;have cc := called_any (h0.below hB) Om (some ⟨w.heap.size + 1, 0, none⟩) 7 7 _ hor (by decide) (fun z hz e => by simp [blkOf] at hz; omega) Om Om;refine cc.mono ?_;rintro e w2 ⟨NA, nn, nc, MA, mn, mc, lt, rfl, h2, g2, hI, u1, u2⟩;have hm1 : 1 <= nn := hI.2.2.2.1.1;have hm2 : 1 <= mn := hI.2.2.2.1.2;have F1 := JB.ofCa (lt := lt) hB h2 g2 hI Om;clear cc h2 g2 hI ho hB h0;go_wp2_with fail
 have hwb : w2.heap.size = w2.heap.size := rfl;generalize w2.alloc (.cells #[.slice NA nn nc, .slice MA mn mc, .bool lt] 61) = W1 at *;generalize w2.heap.size = b at *;clear hwb;refine (pick_cx F1.cx 24 Om Om Om).mono ?_;intro e w4 hp;obtain ⟨sw, ⟨hb0, hb1⟩, rfl, h4, g4⟩ := F1.cx.pick hp;have F := F1.step h4 g4;clear hp F1 h4 g4;go_upto_block 0 with fail
 go_cut [] (fun wq => FJ R w1 wq g b A n c (k + 60) l)
 case first =>
  exact Nonempty.elim (α := type_of% ?k2) (letI i : Nonempty (type_of% ?k2) := ⟨by
   clear z0 gg0 hsz0 hgl h;obtain ⟨⟨c0, c1, c2⟩, f0, f1, f2⟩ := F.cells;have hlt := F.lt_;by_cases s0 : sw = 0
   ·
    subst s0;obtain ⟨z, rfl, hz, hf, ⟨v0, hc⟩, hs⟩ := F.setN hm1;have hm1I : 0 < nn := Om;have hsm : ∀ x ∈ [(⟨#[]⟩ : BA), ⟨#[97]⟩, ⟨#[65, 66, 67, 68, 69]⟩, ⟨#[65, 66, 67, 68, 69, 70]⟩, ⟨#[51, 65, 60]⟩, ⟨#[65, 32, 66]⟩], x.size <= 100 := by decide
    have co := of_litD F.cx Om [(⟨#[]⟩ : BA), ⟨#[97]⟩, ⟨#[65, 66, 67, 68, 69]⟩, ⟨#[65, 66, 67, 68, 69, 70]⟩, ⟨#[51, 65, 60]⟩, ⟨#[65, 32, 66]⟩] 6 w4.heap.size rfl rfl Om Om #[.string ⟨#[]⟩, .string ⟨#[97]⟩, .string ⟨#[65, 66, 67, 68, 69]⟩, .string ⟨#[65, 66, 67, 68, 69, 70]⟩, .string ⟨#[51, 65, 60]⟩, .string ⟨#[65, 32, 66]⟩] rfl 6;go_upto_region 4 with fail
    go_region_law (first | (go_simp; go_at_call 145; with_reducible refine co.mono ?_; rintro e w5 ⟨s, hsL, rfl, h5, g5⟩; have F5 := F.step h5 g5; obtain ⟨⟨d0, d1, d2⟩, e0, e1, e2⟩ := F5.cells; have hlt5 := F5.lt_; obtain ⟨z5, ez, hz5, hf5, ⟨v5, hc5⟩, hs5⟩ := F5.setN hm1; obtain rfl : z = z5 := by simpa using ez))
    all_goals
     go_wp2;go_meet;exact ⟨_, _, _, _, _, _, _, (hs5 s (hsm s hsL)).mono Om, Om, Om⟩
   by_cases s1 : sw = 1
   ·
    subst s1;obtain ⟨z, rfl, hz, hf, ⟨v0, hc⟩, hs⟩ := F.setM hm2;have hm2I : 0 < mn := Om;have co := among_litD F.cx Om [-1, 3, 4] 3 w4.heap.size rfl rfl Om Om #[.int .i64 (-1), .int .i64 3, .int .i64 4] rfl 3;go_upto_region 6 with fail
    go_region_law (first | (go_simp; go_at_call 73; with_reducible refine co.mono ?_; intro e w5 hp; obtain ⟨s, hsL, rfl, h5, g5⟩ := RetAl.out hp; have F5 := F.step h5 g5; obtain ⟨⟨d0, d1, d2⟩, e0, e1, e2⟩ := F5.cells; have hlt5 := F5.lt_; obtain ⟨z5, ez, hz5, hf5, ⟨v5, hc5⟩, hs5⟩ := F5.setM hm2; obtain rfl : z = z5 := by simpa using ez))
    all_goals
     go_wp2;go_meet;exact ⟨_, _, _, _, _, _, _, (hs5 s).mono Om, Om, Om⟩
   by_cases s2 : sw = 2
   ·
    subst s2;have F10 := F.below (bAlloc bR (.cells #[.int .i64 0] 3));obtain ⟨ml, hml, hnext⟩ := F10.pushM;have hj1 : mn + 1 <= 1099511627776 := Om;go_wp2_with (at_builtin; (refine wpl_step fun E => ?_); refine app_int rfl _ _ F10.le rfl rfl hj1 rfl hml (newI _ 0) ?_; intro A2 c2' w11 ho hg hd; obtain ⟨hz7, F11⟩ := hnext A2 c2' w11 _ ho hg hd; obtain ⟨⟨y0, y1, y2⟩, x0, x1, x2⟩ := blk3 hz7; have hlt7 := (Array.getElem?_eq_some_iff.1 hz7).1)
    go_meet;exact ⟨_, _, _, _, _, _, _, F11.mono Om, Om, Om⟩
   by_cases s3 : sw = 3
   ·
    subst s3;go_wp2_with fail
    refine (pick_cx F.cx 2 Om Om Om).mono ?_;intro e w5 hp;obtain ⟨v2, ⟨ha0, ha1⟩, rfl, h5, g5⟩ := F.cx.pick hp;have F5 := F.step h5 g5;obtain ⟨v, rfl⟩ : ∃ v : Nat, v2 = v := ⟨v2.toNat, Om⟩;have hN : ∃ N : Nat, 3 + v = N /\ 3 <= N /\ N <= 4 := ⟨_, rfl, Om, Om⟩;obtain ⟨N, hN, hN1, hN2⟩ := hN;have e1 : IntKind.i64.wrap (3 + (v : Int)) = N := by
     rw [IntWalk.i64_in _ Om]; omega
    clear hN ha0 ha1 hp F h5 g5 c0 c1 c2 f0 f1 f2 hlt;go_wp2_with fail
    go_loopg [] (N - nn) (fun gk wr => ∃ (NA : OA) (j nc : Nat) (MA : OA) (mn mc : Nat) (lt : Bool), j + gk <= N /\ N <= j + gk /\ mn + gk <= 3 + N /\ JB R w1 wr g b A n c (k + 50) l NA j nc MA mn mc lt)
    case atStart => exact ⟨NA, nn, nc, MA, mn, mc, lt, Om, Om, Om, F5.mono Om⟩
    case round =>
     exact Nonempty.elim (α := type_of% ?k1) (letI i : Nonempty (type_of% ?k1) := ⟨by
      clear F5;obtain ⟨NA, j, nc, MA, mn, mc, lt, hj1, hj2, hj3, F⟩ := hrel;obtain ⟨⟨c0, c1, c2⟩, f0, f1, f2⟩ := F.cells;have hlt := F.lt_;by_cases hlt2 : j < N
      ·
       have hltI : (j : Int) < N := Om;have F10 := F.below (bAlloc bR (.cells #[.string ⟨#[49, 84]⟩] 9));obtain ⟨nl, hnl, hnext⟩ := F10.pushN;have hjn : j + 1 <= 1099511627776 := Om;have hjm : mn + 1 <= 1099511627776 := Om;go_upto_region 13 with (at_builtin; (refine wpl_step fun E => ?_); refine app_str rfl _ _ F10.le rfl rfl hjn rfl hnl (newT _ _) ?_; intro A' c' w7 ho hg hd; obtain ⟨hz7, F7⟩ := hnext A' c' w7 _ (show ByteArray.size ⟨#[49, 84]⟩ <= 100 by decide) ho hg hd; obtain ⟨⟨y0, y1, y2⟩, x0, x1, x2⟩ := blk3 hz7; have hlt7 := (Array.getElem?_eq_some_iff.1 hz7).1);clear hnl hnext ho hg hd hz7 y0 y1 y2 x0 x1 x2 hlt7 c0 c1 c2 f0 f1 f2 hlt F10 F;generalize w7.setCell ⟨b, 0, none⟩ (.slice A' (j + 1) c') = w8 at *;obtain ⟨⟨c0, c1, c2⟩, f0, f1, f2⟩ := F7.cells;have hlt := F7.lt_;have F11 := F7.below (bAlloc bR (.cells #[.int .i64 1] 3));obtain ⟨ml, hml, hnext⟩ := F11.pushM;go_wp2_with (at_builtin; (refine wpl_step fun E => ?_); refine app_int rfl _ _ F11.le rfl rfl hjm rfl hml (newI _ 1) ?_; intro A2 c2' w11 ho hg hd; obtain ⟨hz7, F12⟩ := hnext A2 c2' w11 _ ho hg hd; obtain ⟨⟨y0, y1, y2⟩, x0, x1, x2⟩ := blk3 hz7; have hlt7 := (Array.getElem?_eq_some_iff.1 hz7).1)
       go_roundg (gk - 1)
       case measure => omega
       case rel => exact ⟨A', j + 1, c', A2, mn + 1, c2', lt, Om, Om, Om, F12⟩
      ·
       have hltI : ¬ (j : Int) < N := Om;go_wp2;go_meet;exact ⟨_, _, _, _, _, _, _, F.mono Om, Om, Om⟩
      ⟩; by exact inferInstanceAs (Nonempty _)) (fun h => h)
   by_cases s4 : sw = 4
   ·
    subst s4;go_wp2;go_meet;exact ⟨_, _, _, _, _, _, _, F.zero.mono Om, Om, Om⟩
   ·
    go_wp2;go_meet;exact ⟨_, _, _, _, _, _, _, F.mono Om, Om, Om⟩
   ⟩; by exact inferInstanceAs (Nonempty _)) (fun h => h)
 case rest =>
  exact Nonempty.elim (α := type_of% ?k3) (letI i : Nonempty (type_of% ?k3) := ⟨by
   obtain ⟨NA, nn, nc, MA, mn, mc, lt, F, hu1, hu2⟩ := hcut;obtain ⟨⟨c0, c1, c2⟩, f0, f1, f2⟩ := F.cells;have hlt := F.lt_;have zz := heap_kept z0 F.gr Om;obtain ⟨⟨y0, y1, y2⟩, x0, x1, x2⟩ := blk3 zz;have hlr := (Array.getElem?_eq_some_iff.1 zz).1;go_wp2;refine bodyPost_ret (v := .agg #[.slice NA nn nc, .slice MA mn mc, .bool lt]) (by simp [results, Tryz.results218, go_sem, c0, c1, c2, y0, y1, y2, x0, x1, x2, hlr]) rfl ?_;exact F.toCa gg0 Om hgl Om Om Om Om Om Om
   ⟩; by exact inferInstanceAs (Nonempty _)) (fun h => h)
theorem newItemAt {b : Nat} (hb : b = w.heap.size) (v0 v1 v2 : Value) : Rd 3 (w.alloc (.cells #[v0, v1, v2] 61)) (some ⟨b, 0, none⟩) 1 [v0, v1, v2] := hb ▸ newItem w v0 v1 v2
theorem its_lit (w : World) (s : BA) (v : Int) (hs : s.size <= 100) (hm : m <= 1 := by omega) : ItO w.heap.size m ((w.alloc (.cells #[.string s] 9)).alloc (.cells #[.int .i64 v] 3)) (some ⟨w.heap.size, 0, none⟩) 1 1 (some ⟨w.heap.size + 1, 0, none⟩) 1 1 := by
 have o1 := OwT.lit_ (R := w) (Below.refl _ w) [s] (by simp [maxLen]) #[.string s] rfl;have o2 := OwI.lit_ (R := w) (bAlloc (Below.refl _ w) (.cells #[.string s] 9)) [v] (by simp [maxLen]) #[.int .i64 v] rfl;rw [World.size_alloc] at o2;exact ⟨⟨[s], o1.below (bAlloc bR _), fun x hx => by simp at hx; subst hx; exact hs⟩, ⟨[v], o2⟩, .inr (by simp [blkOf]), ⟨hm, hm⟩, Om, Om⟩
theorem anyItems_any (h : Cx R w g A n c k l) (hk : k <= 700000) :
  Calls Tryz.prog 173 #[.pointer (some ⟨g, 0, none⟩)] w (RetDL R w g A n c (k + 1000) l 0 20) := by
 have hgl := h.cur.lt;go_enter Tryz.func173, Tryz.ntmps173;go_wp2_with fail
 refine (pick_cx h 7 Om Om Om).mono ?_;intro e w1 hp;obtain ⟨v1, ⟨ha0, ha1⟩, rfl, h1, g1⟩ := h.pick hp;have F1 := (LS.start (m := 0) h).step h1 g1;obtain ⟨N, rfl⟩ : ∃ N : Nat, v1 = N := ⟨v1.toNat, Om⟩;have hN : N <= 6 := Om;clear hp ha0 ha1 h1 g1;go_wp2_with fail
 go_loopw [3, 4, 5] (fun s i _ wr => ∃ (q j : Nat) (I : OA) (p cp : Nat) (κ : Kf), j + q = N /\ p <= j /\ i = .int .i64 q /\ s = .slice I p cp /\ LS R w wr g A n c (k + 2 + 70 * j) l κ 0 I p cp) (fun _ i _ _ => (intOf i).toNat)
 case atStart => exact ⟨N, 0, none, 0, 0, k0, Om, Nat.le_refl _, rfl, rfl, F1.mono Om⟩
 case round =>
  exact Nonempty.elim (α := type_of% ?k5) (letI i : Nonempty (type_of% ?k5) := ⟨by
   clear F1;obtain ⟨q, j, I, p, cp, κ, hq, hp, rfl, rfl, F⟩ := hrel;by_cases hq0 : 0 < q
   ·
    have hq0I : (0 : Int) < q := Om;go_wp2_with fail
    refine (anyItem_any F.cx Om).mono ?_;rintro e w2 ⟨NA, nn, nc, MA, mn, mc, lt, rfl, h2, g2, hI, u1, u2⟩;have hB2 := bAlloc (Below.refl w2.heap.size w2) (.cells #[.slice NA nn nc, .slice MA mn mc, .bool lt] 61);have hz2 := heap_alloc_new w2 (.cells #[.slice NA nn nc, .slice MA mn mc, .bool lt] 61);have hI2 := ItO.below hI hB2;have h3 := h2.below hB2;have g3 := g2.trans (grownBy_of_below hB2);have hsz := g2.size;have hbl : w2.heap.size < (w2.alloc (.cells #[.slice NA nn nc, .slice MA mn mc, .bool lt] 61)).heap.size := by simp
    clear hB2 h2 g2 hI;go_upto_region 6 with fail;generalize w2.alloc (.cells #[.slice NA nn nc, .slice MA mn mc, .bool lt] 61) = W3 at *;generalize w2.heap.size = b at *;obtain ⟨⟨c0, c1, c2⟩, f0, f1, f2⟩ := blk3 hz2;have ei := hI2;obtain ⟨⟨nl, o1, s1⟩, ⟨ml, o2⟩, _⟩ := ei;have cg := itGood_any W3 NA MA nn nc mn mc nl ml lt o1.rd o2.rd Om Om (fun x hx => by have := s1 x hx; omega);generalize itemB (nl, ml, lt) = gb at *;clear o1 o2 s1
    cases gb
    ·
     go_wp2_with fail
     refine cg.mono ?_;rintro e w4 ⟨rfl, y, rfl⟩;have hb4 := ext_below W3 y;have h4 := h3.below hb4;have g4 := g3.trans (grownBy_of_below hb4);have hI4 := hI2.below hb4;have z4 := heap_old hz2 hb4;have l4 : b < (ext W3 y).heap.size := Nat.lt_of_lt_of_le hbl hb4.size;clear cg hz2 c0 c1 c2 f0 f1 f2 h3 g3 hI2 hbl hb4;generalize ext W3 y = W4 at *;go_wp2_with fail
     refine (one_cx h4 4 Om Om Om).mono ?_;rintro e w5 ⟨bo, rfl, hC5, g5⟩;have h5 := h4.grow hC5 g5;have g45 := g4.trans g5;have hI5 := hI4.kept g5 (fun z e => by injection e with e; have := F.hg; have := F.gr.size; omega);have hbg : b ≠ g := by have := F.hg; have := F.gr.size; omega
     have z5 := heap_kept z4 g5 hbg;obtain ⟨⟨c0, c1, c2⟩, f0, f1, f2⟩ := blk3 z5;have l5 := (Array.getElem?_eq_some_iff.1 z5).1;clear hC5 g5 h4 g4 hI4 z4 l4
     cases bo
     ·
      have F5 := F.step h5 g45;have eq1 : IntKind.i64.wrap ((q : Int) - 1) = ((q - 1 : Nat) : Int) := by rw [IntWalk.i64_in _ Om]; omega
      go_wp2;go_roundw
      case rel => exact ⟨q - 1, j + 1, I, p, cp, κ, Om, Om, rfl, rfl, F5.mono Om⟩
      case measure => simp [intOf]; omega
     ·
      obtain ⟨xs, q1, hpush⟩ := LS.push (lt := lt) F h5 g45 hI5 (Nat.le_refl _);have hbs := g45.size;have hlw := F.gr.size;have hp1 : p + 1 <= 1099511627776 := Om;go_upto_region 4 with (at_builtin; (refine wpl_step fun E => ?_); refine app_item rfl _ _ (Nat.le_trans (Nat.le_trans hlw hbs) (by simp)) rfl rfl hp1 rfl (q1.below (bAlloc bR _)) (newItem _ _ _ _) (by simp [Value.oneCell']) ?_; intro A' c' w' ho hg hd);obtain ⟨κ2, F5⟩ := hpush A' c' _ w' (bAlloc bR _) ho hg hd;clear hpush q1 ho hg hd;have eq1 : IntKind.i64.wrap ((q : Int) - 1) = ((q - 1 : Nat) : Int) := by rw [IntWalk.i64_in _ Om]; omega
      go_wp2;go_roundw
      case rel => exact ⟨q - 1, j + 1, A', p + 1, c', κ2, Om, Om, rfl, rfl, F5.mono Om⟩
      case measure => simp [intOf]; omega
    ·
     go_wp2_with fail
     refine cg.mono ?_;rintro e w4 ⟨rfl, y, rfl⟩;have hb4 := ext_below W3 y;have h4 := h3.below hb4;have g4 := g3.trans (grownBy_of_below hb4);have hI4 := hI2.below hb4;have z4 := heap_old hz2 hb4;clear cg hz2 c0 c1 c2 f0 f1 f2 h3 g3 hI2 hbl hb4;generalize ext W3 y = W4 at *;obtain ⟨⟨c0, c1, c2⟩, f0, f1, f2⟩ := blk3 z4;have l4 := (Array.getElem?_eq_some_iff.1 z4).1;obtain ⟨xs, q1, hpush⟩ := LS.push (lt := lt) F h4 g4 hI4 (Nat.le_refl _);have hbs := g4.size;have hlw := F.gr.size;have hp1 : p + 1 <= 1099511627776 := Om;go_upto_region 4 with (at_builtin; (refine wpl_step fun E => ?_); refine app_item rfl _ _ (Nat.le_trans (Nat.le_trans hlw hbs) (by simp)) rfl rfl hp1 rfl (q1.below (bAlloc bR _)) (newItem _ _ _ _) (by simp [Value.oneCell']) ?_; intro A' c' w' ho hg hd);obtain ⟨κ2, F5⟩ := hpush A' c' _ w' (bAlloc bR _) ho hg hd;clear hpush q1 ho hg hd;have eq1 : IntKind.i64.wrap ((q : Int) - 1) = ((q - 1 : Nat) : Int) := by rw [IntWalk.i64_in _ Om]; omega
     go_wp2;go_roundw
     case rel => exact ⟨q - 1, j + 1, A', p + 1, c', κ2, Om, Om, rfl, rfl, F5.mono Om⟩
     case measure => simp [intOf]; omega
   ·
    obtain rfl : q = 0 := Om;go_wp2_with fail
    refine (one_cx F.cx 24 Om Om Om).mono ?_;rintro e w3 ⟨bo, rfl, hC3, g3⟩;have F3 := F.step (F.cx.grow hC3 g3) g3;clear F hC3 g3
    cases bo
    ·
     go_wp2;go_ret;exact ⟨I, p, cp, κ, rfl, F3.mono Om, Om⟩
    ·
     go_wp2_with fail
     refine (pick_cx F3.cx 2 Om Om Om).mono ?_;intro e w5 hp';obtain ⟨v2, ⟨ha0, ha1⟩, rfl, h5, g5⟩ := F3.cx.pick hp';have F5 := F3.step h5 g5;obtain ⟨v, rfl⟩ : ∃ v : Nat, v2 = v := ⟨v2.toNat, Om⟩;obtain ⟨T, hT, hT1, hT2⟩ : ∃ T : Nat, 14 + v = T /\ 14 <= T /\ T <= 15 := ⟨_, rfl, Om, Om⟩;have e1 : wrap64 (14 + (v : Int)) = T := by
      rw [IntWalk.wrap64_in _ Om]; omega
     clear hp' h5 g5 F3 ha0 ha1 hT;go_wp2_with fail
     generalize wrap64 (14 + (v : Int)) = i1 at *;subst e1
     go_loopw [3] (fun s wr => ∃ (I : OA) (p cp : Nat) (κ : Kf), p <= T /\ s = .slice I p cp /\ LS R w wr g A n c (k + 900) l κ 0 I p cp) (fun s _ => match s with | .slice _ j _ => T - j | _ => 0)
     case atStart => exact ⟨I, p, cp, κ, Om, rfl, F5.mono Om⟩
     case round =>
      exact Nonempty.elim (α := type_of% ?k4) (letI i : Nonempty (type_of% ?k4) := ⟨by
       clear F5;obtain ⟨I, p, cp, κ, hp, rfl, F⟩ := hrel;by_cases hpT : p < T
       ·
        have hpI : (p : Int) < T := Om;have b1 := bAlloc (Below.refl wr.heap.size wr) (.cells #[.string ⟨#[49, 84]⟩] 9);have b2 := bAlloc b1 (.cells #[.int .i64 0] 3);have hi : ItO wr.heap.size 0 ((wr.alloc (.cells #[.string ⟨#[49, 84]⟩] 9)).alloc (.cells #[.int .i64 0] 3)) (some ⟨wr.heap.size, 0, none⟩) 1 1 (some ⟨wr.heap.size + 1, 0, none⟩) 1 1 := its_lit wr ⟨#[49, 84]⟩ 0 (by decide);obtain ⟨xs, q1, hpush⟩ := LS.push (lt := false) F (F.cx.below b2) (grownBy_of_below b2) hi (Nat.le_refl _);have hlw := F.gr.size;have hp1 : p + 1 <= 1099511627776 := Om;go_wp2_with (at_builtin; (refine wpl_step fun E => ?_); refine app_item rfl _ _ (Nat.le_trans hlw (by simp only [World.size_alloc]; omega)) rfl rfl hp1 rfl (q1.below (bAlloc bR _)) (newItemAt (by simp) _ _ _) (by simp [Value.oneCell']) ?_; intro A' c' w' ho hg hd)
        obtain ⟨κ2, F5⟩ := hpush A' c' _ w' (bAlloc bR _) ho hg hd;clear hpush q1 ho hg hd;go_roundw
        case rel => exact ⟨A', p + 1, c', κ2, Om, rfl, F5⟩
        case measure => simp; omega
       ·
        have hpI : ¬ (p : Int) < T := Om;go_wp2;go_ret;exact ⟨I, p, cp, κ, rfl, F.mono Om, Om⟩
       ⟩; by exact inferInstanceAs (Nonempty _)) (fun h => h)
   ⟩; by exact inferInstanceAs (Nonempty _)) (fun h => h)
end Go.Proofs.YtlfhhkgleapamaaGreatDoor
