/- What the reference draws of names and items. Conditions: none. -/
import Derived.Test.YtlfhhkgleapamaaGreatDoorRFors
import Derived.Test.YtlfhhkgleapamaaGreatDoorRDraws
import Derived.Test.YtlfhhkgleapamaaGreatDoorRDraw18
import Derived.Deep.RegionHeld3
import Derived.Test.YtlfhhkgleapamaaGreatDoorRDoors
import Derived.Test.YtlfhhkgleapamaaGreatDoorRBase0
set_option linter.unusedVariables false
set_option linter.unusedSimpArgs false
set_option maxRecDepth 100000
set_option maxHeartbeats 16000000
namespace Go.Proofs.YtlfhhkgleapamaaGreatDoor
open Go.RowKit
variable {κ : Kf} {l : List Int} {b c g k m mn n nn s : Nat} {A : OA} {R W w w' : World}
theorem Rd.keptR {B : OA} {xs : List Value} {row : Option Nat} (h : Rd s w B m xs) (hg : w.grownBy w' row) (hne : ∀ z, blkOf B = some z -> some z ≠ row) : Rd s w' B m xs := by
 refine ⟨h.1, fun hm => ?_⟩;obtain ⟨b, off, rfl, hlt, hc⟩ := h.2 hm;exact ⟨b, off, rfl, Nat.lt_of_lt_of_le hlt hg.size, fun j u hu => (World.cell?_of_block (hg.block b hlt (hne b rfl))).trans (hc j u hu)⟩
theorem RetAl.out {L : List Int} {e : Ending} (h : RetAl R W g A n c k l L e w') : ∃ r : Int, r ∈ L /\ e = .returned (.int .i64 r) /\ Cx R w' g A n c k l /\ W.grownBy w' (some g) := h
theorem among_litD (h : Cx R W g A n c k l) (hk : k <= 1099511627000) (L : List Int) (m : Nat) (b : Nat) (hb : b = W.heap.size) (hm : m = L.length) (hm1 : 1 <= m) (hm2 : m <= 1000) (cs : Array Value) (hcs : cs.toList = L.map (Value.int .i64)) (d : Nat) :
  Calls Tryz.prog 73 #[.pointer (some ⟨g, 0, none⟩), .slice (some ⟨b, 0, none⟩) m d] (W.alloc (.cells cs 3)).drew (RetAl R W g A n c (k + 2) l L) := by
 refine (show Calls Tryz.prog 73 #[.pointer (some ⟨g, 0, none⟩), .slice (some ⟨b, 0, none⟩) m d] (W.drew.alloc (.cells cs 3)) (RetAl R W.drew g A n c (k + 2) l L) from among_lit (h.below (bDrew bR)) hk L m b hb hm hm1 hm2 cs hcs d).mono ?_;rintro e w' ⟨r, h1, h2, h3, h4⟩;exact ⟨r, h1, h2, h3, (grownBy_of_below (bDrew (Below.refl _ W))).trans h4⟩
theorem wpl_step {P : Program} {ops : Array Oper} {o : Oper} {rest : List Oper} {a : Act} {Q : Exit -> Act -> World -> Prop} (h : ∀ E : Prop, if Region.wanted o (yielded ops a.tmps) = true then Oper.wp P o a W (wpList P ops Q rest) Q else E) : wpList P ops Q (o :: rest) a W := by
 have h1 := h (wpList P ops Q rest (a.put o.dst undef) W);unfold wpList;by_cases hw : Region.wanted o (yielded ops a.tmps) = true
 ·
  rw [if_pos hw] at h1 ⊢;exact .inl h1
 ·
  rw [if_neg hw] at h1 ⊢;exact h1
theorem newT (w : World) (s : BA) : RdT (w.alloc (.cells #[.string s] 9)) (some ⟨w.heap.size, 0, none⟩) 1 [s] :=
 Rd.one_ rfl (fun x u hu => by
  match x with
  | 0 => simp at hu; subst hu; simp [go_sem]
  | x + 1 => simp at hu) Sg
theorem newI (w : World) (s : Int) : RdI (w.alloc (.cells #[.int .i64 s] 3)) (some ⟨w.heap.size, 0, none⟩) 1 [s] :=
 Rd.one_ rfl (fun x u hu => by
  match x with
  | 0 => simp at hu; subst hu; simp [go_sem]
  | x + 1 => simp at hu) Sg
theorem newItem (w : World) (v0 v1 v2 : Value) : Rd 3 (w.alloc (.cells #[v0, v1, v2] 61)) (some ⟨w.heap.size, 0, none⟩) 1 [v0, v1, v2] :=
 Rd.one_ rfl (fun x u hu => by
  match x with
  | 0 => simp at hu; subst hu; simp [go_sem]
  | 1 => simp at hu; subst hu; simp [go_sem]
  | 2 => simp at hu; subst hu; simp [go_sem]
  | x + 3 => simp at hu) Sg
theorem newEl (w : World) (p : El) : RdEl (w.alloc (.cells #[.string p.1, .int .i64 p.2.1, .int .i64 p.2.2.1, .int .i64 p.2.2.2] 112)) (some ⟨w.heap.size, 0, none⟩) 1 [p] :=
 Rd.one_ rfl (fun x u hu => by
  match x with
  | 0 => simp [elCells] at hu; subst hu; simp [go_sem]
  | 1 => simp [elCells] at hu; subst hu; simp [go_sem]
  | 2 => simp [elCells] at hu; subst hu; simp [go_sem]
  | 3 => simp [elCells] at hu; subst hu; simp [go_sem]
  | x + 4 => simp [elCells] at hu) Sg
abbrev RetOf (R w : World) (g : Nat) (A : OA) (n c k : Nat) (l : List Int) (L : List BA) (e : Ending) (w' : World) : Prop := ∃ s : BA, s ∈ L /\ e = .returned (.string s) /\ Cx R w' g A n c k l /\ w.grownBy w' (some g)
theorem of_any (h : Cx R w g A n c k l) (hk : k <= 1000000) (B : OA) (m d : Nat) (L : List BA) (hb : RdT w B m L) (hneb : ∀ z, blkOf B = some z -> z ≠ g) (hm1 : 1 <= m) (hm2 : m <= 1000) :
  Calls Tryz.prog 145 #[.pointer (some ⟨g, 0, none⟩), .slice B m d] w (RetOf R w g A n c (k + 2) l L) := by
 have hl := hb.len;go_enter Tryz.func145, Tryz.ntmps145;go_wp2_with fail
 refine (pick_cx h m Om Om Om).mono ?_;intro e w1 hp;obtain ⟨r1, ⟨ha0, ha1⟩, rfl, h1, g1⟩ := h.pick hp;clear hp;obtain ⟨b, off, rfl, hlt, hc⟩ := RdT.open_ (Rd.keptR hb g1 (fun z hz e => hneb z hz (by injection e))) Om;obtain ⟨i, rfl⟩ : ∃ i : Nat, r1 = i := ⟨r1.toNat, Om⟩;have hi := hc i Om;have hm := getD_mem ByteArray.empty L i Om;clear hc;have hiI : (i : Int) < m := Om;go_wp2;go_ret;exact ⟨_, hm, rfl, h1, g1⟩
def elNames : List BA := [⟨#[49, 65]⟩, ⟨#[49, 84]⟩, ⟨#[50, 65]⟩, ⟨#[50, 70]⟩, ⟨#[50, 76, 90]⟩, ⟨#[50, 83]⟩, ⟨#[50, 84]⟩, ⟨#[51, 65]⟩, ⟨#[51, 70]⟩, ⟨#[51, 76, 79]⟩, ⟨#[51, 76, 90]⟩, ⟨#[51, 83]⟩, ⟨#[51, 84]⟩, ⟨#[52, 83]⟩, ⟨#[52, 84]⟩, ⟨#[67, 67, 83, 80]⟩, ⟨#[67, 72, 83, 81]⟩, ⟨#[70, 83, 83, 80]⟩, ⟨#[76, 53]⟩, ⟨#[76, 83, 80]⟩, ⟨#[83, 81]⟩, ⟨#[83, 83, 80]⟩, ⟨#[83, 84, 83, 81]⟩, ⟨#[85, 83, 80]⟩]
theorem elNames_small : ∀ x ∈ elNames, x.size <= 100 := by decide
def RetEN (w : World) (e : Ending) (w' : World) : Prop := e = .returned (.slice (some ⟨w.heap.size, 0, none⟩) 24 24) /\ ∃ x, w' = ext w x /\ OwT w.heap.size (ext w x) (some ⟨w.heap.size, 0, none⟩) 24 24 elNames
theorem elementNames_any (w : World) : Calls Tryz.prog 146 #[] w (RetEN w) := by
 go_enter Tryz.func146, Tryz.ntmps146;go_wp2;go_ret;refine ⟨rfl, ?_⟩;have ho := OwT.lit_ (R := w) (Below.refl _ w) elNames (by simp [maxLen, elNames]) _ (show _ = elNames.map Value.string from rfl);obtain ⟨x, hx⟩ := ext_ex (bAlloc (Below.refl _ w) (.cells #[.string ⟨#[49, 65]⟩, .string ⟨#[49, 84]⟩, .string ⟨#[50, 65]⟩, .string ⟨#[50, 70]⟩, .string ⟨#[50, 76, 90]⟩, .string ⟨#[50, 83]⟩, .string ⟨#[50, 84]⟩, .string ⟨#[51, 65]⟩, .string ⟨#[51, 70]⟩, .string ⟨#[51, 76, 79]⟩, .string ⟨#[51, 76, 90]⟩, .string ⟨#[51, 83]⟩, .string ⟨#[51, 84]⟩, .string ⟨#[52, 83]⟩, .string ⟨#[52, 84]⟩, .string ⟨#[67, 67, 83, 80]⟩, .string ⟨#[67, 72, 83, 81]⟩, .string ⟨#[70, 83, 83, 80]⟩, .string ⟨#[76, 53]⟩, .string ⟨#[76, 83, 80]⟩, .string ⟨#[83, 81]⟩, .string ⟨#[83, 83, 80]⟩, .string ⟨#[83, 84, 83, 81]⟩, .string ⟨#[85, 83, 80]⟩] 9));refine ⟨x, hx, ?_⟩;rw [<- hx];exact ho
def zItm : Obj := .cells #[.slice none 0 0, .slice none 0 0, .bool false] 61
theorem set3_0 {ty : Nat} {x0 x1 x2 v : Value} (h : w.heap[g]? = some (.cells #[x0, x1, x2] ty (0, 0))) : (w.setCell ⟨g, 0, none⟩ v).heap[g]? = some (.cells #[v, x1, x2] ty (0, 0)) := by
 simp [World.setCell, Array.getElem?_modify, h]
theorem set3_1 {ty : Nat} {x0 x1 x2 v : Value} (h : w.heap[g]? = some (.cells #[x0, x1, x2] ty (0, 0))) : (w.setCell ⟨g, 1, none⟩ v).heap[g]? = some (.cells #[x0, v, x2] ty (0, 0)) := by
 simp [World.setCell, Array.getElem?_modify, h]
structure IB (R w W : World) (g b : Nat) (A : OA) (n c k : Nat) (l : List Int) (NA : OA) (nn nc : Nat) (MA : OA) (mn mc : Nat) (lt : Bool) : Prop where
 cx : Cx R W g A n c k l
 gr : w.grownBy W (some g)
 hr : w.heap.size = b
 hg : g < b
 hb : W.heap[b]? = some (.cells #[.slice NA nn nc, .slice MA mn mc, .bool lt] 61)
 oN : ∃ nl, OwT (b + 1) W NA nn nc nl /\ ∀ x ∈ nl, x.size <= 100
 oM : ∃ ml, OwI (b + 1) W MA mn mc ml
 ne : blkOf NA = none ∨ blkOf NA ≠ blkOf MA
section
variable {R w W W' : World} {g b n c k k' : Nat} {A : OA} {l : List Int} {NA : OA} {nn nc : Nat} {MA : OA} {mn mc : Nat} {lt : Bool}
theorem IB.step (F : IB R w W g b A n c k l NA nn nc MA mn mc lt) (hX : Cx R W' g A n c k' l) (hg : W.grownBy W' (some g)) : IB R w W' g b A n c k' l NA nn nc MA mn mc lt := by
 have h2 := F.hg;obtain ⟨nl, o1, s1⟩ := F.oN;obtain ⟨ml, o2⟩ := F.oM;refine ⟨hX, F.gr.trans hg, F.hr, F.hg, heap_kept F.hb hg Om, ⟨nl, o1.kept hg ?_, s1⟩, ⟨ml, o2.kept hg ?_⟩, F.ne⟩
 ·
  cases hz : blkOf NA with
  | none => exact .inl rfl
  | some z => exact .inr fun e => by have := (o1.blk hz).1; injection e with e; omega
 ·
  cases hz : blkOf MA with
  | none => exact .inl rfl
  | some z => exact .inr fun e => by have := (o2.blk hz).1; injection e with e; omega
theorem IB.below (F : IB R w W g b A n c k l NA nn nc MA mn mc lt) (hb : Below W.heap.size W W') : IB R w W' g b A n c k l NA nn nc MA mn mc lt := F.step (F.cx.below hb) (grownBy_of_below hb)
theorem IB.drew (F : IB R w W g b A n c k l NA nn nc MA mn mc lt) : IB R w W.drew g b A n c k l NA nn nc MA mn mc lt := F.below (bDrew bR)
theorem IB.mono (F : IB R w W g b A n c k l NA nn nc MA mn mc lt) (hk : k <= k') : IB R w W g b A n c k' l NA nn nc MA mn mc lt := ⟨F.cx.mono hk, F.gr, F.hr, F.hg, F.hb, F.oN, F.oM, F.ne⟩
theorem IB.cells (F : IB R w W g b A n c k l NA nn nc MA mn mc lt) : (W.cell? ⟨b, 0, none⟩ = some (.slice NA nn nc) /\ W.cell? ⟨b, 1, none⟩ = some (.slice MA mn mc) /\ W.cell? ⟨b, 2, none⟩ = some (.bool lt)) /\ W.frozen? ⟨b, 0, none⟩ = false /\ W.frozen? ⟨b, 1, none⟩ = false /\ W.frozen? ⟨b, 2, none⟩ = false := blk3 F.hb
theorem IB.lt_ (F : IB R w W g b A n c k l NA nn nc MA mn mc lt) : b < W.heap.size := (Array.getElem?_eq_some_iff.1 F.hb).1
theorem IB.grown {D : OA} (F : IB R w W g b A n c k l NA nn nc MA mn mc lt) (hg : W.grownBy W' (blkOf D)) (hD : ∀ z, blkOf D = some z -> b + 1 <= z) : Cx R W' g A n c k l /\ w.grownBy W' (some g) /\ W'.heap[b]? = some (.cells #[.slice NA nn nc, .slice MA mn mc, .bool lt] 61) := by
 have h2 := F.hg;have h3 := F.hr;have hle := F.cx.le;have hne : ∀ x, x < b + 1 -> blkOf D ≠ some x := fun x hx e => by have := hD x e; omega
 exact ⟨F.cx.row hg (hne g Om) (fun z hz => by have := hD z hz; omega), grown_new F.gr hg (fun z hz => by have := hD z hz; omega), heap_row F.hb hg (hne b Om)⟩
theorem IB.pushN (F : IB R w W g b A n c k l NA nn nc MA mn mc lt) : ∃ nl, OwT (b + 1) W NA nn nc nl /\ ∀ (A' : OA) (c' : Nat) (W' : World) (s : BA), s.size <= 100 -> OwT (b + 1) W' A' (nn + 1) c' (nl ++ [s]) -> W.grownBy W' (blkOf NA) -> (blkOf A' = blkOf NA ∨ blkOf A' = some W.heap.size) ->
  (W'.heap[b]? = some (.cells #[.slice NA nn nc, .slice MA mn mc, .bool lt] 61)) /\ IB R w (W'.setCell ⟨b, 0, none⟩ (.slice A' (nn + 1) c')) g b A n c k l A' (nn + 1) c' MA mn mc lt := by
 obtain ⟨nl, o1, s1⟩ := F.oN;obtain ⟨ml, o2⟩ := F.oM;refine ⟨nl, o1, fun A' c' W' s hs ho hg hd => ?_⟩;obtain ⟨f1, f2, f3⟩ := F.grown hg (fun z hz => (o1.blk hz).1);have hle := F.cx.le;have hr := F.hr;have hgb := F.hg;have hset := gSetM W' b 0 (.slice A' (nn + 1) c');have hz1 : blkOf A' = none ∨ blkOf A' ≠ some b := by
  cases hz : blkOf A' with
  | none => exact .inl rfl
  | some z => exact .inr fun e => by have := (ho.blk hz).1; injection e with e; omega
 have o2' : OwI (b + 1) W' MA mn mc ml := o2.kept hg (by
  cases hz : blkOf MA with
  | none => exact .inl rfl
  | some z =>
   exact .inr fun e => by
    rcases F.ne with h | h
    ·
     rw [h] at e; cases e
    ·
     rw [hz] at h; exact h e.symm)
 have hz2 : blkOf MA = none ∨ blkOf MA ≠ some b := by
  cases hz : blkOf MA with
  | none => exact .inl rfl
  | some z => exact .inr fun e => by have := (o2.blk hz).1; injection e with e; omega
 refine ⟨f3, ⟨f1.set Om Om 0 _, grow_set f2 Om 0 _, F.hr, F.hg, set3_0 f3, ⟨_, ho.kept hset hz1, fun x hx => ?_⟩, ⟨ml, o2'.kept hset hz2⟩, ?_⟩⟩
 ·
  rcases List.mem_append.1 hx with hx | hx
  ·
   exact s1 x hx
  ·
   simp at hx; subst hx; exact hs
 ·
  rcases hd with hd | hd
  ·
   rw [hd]; exact F.ne
  ·
   refine .inr fun e => ?_
   rw [hd] at e;have := (o2.blk e.symm).2;omega
theorem IB.pushM (F : IB R w W g b A n c k l NA nn nc MA mn mc lt) : ∃ ml, OwI (b + 1) W MA mn mc ml /\ ∀ (A' : OA) (c' : Nat) (W' : World) (L : List Int), OwI (b + 1) W' A' (mn + 1) c' L -> W.grownBy W' (blkOf MA) -> (blkOf A' = blkOf MA ∨ blkOf A' = some W.heap.size) ->
  (W'.heap[b]? = some (.cells #[.slice NA nn nc, .slice MA mn mc, .bool lt] 61)) /\ IB R w (W'.setCell ⟨b, 1, none⟩ (.slice A' (mn + 1) c')) g b A n c k l NA nn nc A' (mn + 1) c' lt := by
 obtain ⟨nl, o1, s1⟩ := F.oN;obtain ⟨ml, o2⟩ := F.oM;refine ⟨ml, o2, fun A' c' W' L ho hg hd => ?_⟩;obtain ⟨f1, f2, f3⟩ := F.grown hg (fun z hz => (o2.blk hz).1);have hle := F.cx.le;have hr := F.hr;have hgb := F.hg;have hset := gSetM W' b 1 (.slice A' (mn + 1) c');have hz1 : blkOf A' = none ∨ blkOf A' ≠ some b := by
  cases hz : blkOf A' with
  | none => exact .inl rfl
  | some z => exact .inr fun e => by have := (ho.blk hz).1; injection e with e; omega
 have o1' : OwT (b + 1) W' NA nn nc nl := o1.kept hg F.ne;have hz2 : blkOf NA = none ∨ blkOf NA ≠ some b := by
  cases hz : blkOf NA with
  | none => exact .inl rfl
  | some z => exact .inr fun e => by have := (o1.blk hz).1; injection e with e; omega
 refine ⟨f3, ⟨f1.set Om Om 1 _, grow_set f2 Om 1 _, F.hr, F.hg, set3_1 f3, ⟨_, o1'.kept hset hz2, s1⟩, ⟨_, ho.kept hset hz1⟩, ?_⟩⟩
 rcases hd with hd | hd
 ·
  rw [hd]; exact F.ne
 ·
  cases hz : blkOf NA with
  | none => exact .inl rfl
  | some z =>
   exact .inr fun e => by
    rw [hd] at e;injection e with e;have := (o1.blk hz).2;omega
end
def ItO (base m : Nat) (w : World) (NA : OA) (nn nc : Nat) (MA : OA) (mn mc : Nat) : Prop := (∃ nl, OwT base w NA nn nc nl /\ ∀ x ∈ nl, x.size <= 100) /\ (∃ ml, OwI base w MA mn mc ml) /\ (blkOf NA = none ∨ blkOf NA ≠ blkOf MA) /\ (m <= nn /\ m <= mn) /\ nn <= 1000 /\ mn <= 1000
def RetCa (R w : World) (g : Nat) (A : OA) (n c k : Nat) (l : List Int) (m u : Nat) (e : Ending) (w' : World) : Prop := ∃ NA nn nc MA mn mc lt, e = .returned (.agg #[.slice NA nn nc, .slice MA mn mc, .bool lt]) /\ Cx R w' g A n c k l /\ w.grownBy w' (some g) /\ ItO w.heap.size m w' NA nn nc MA mn mc /\ nn <= u /\ mn <= u
theorem IB.toCa {w1 : World} {k' : Nat} {NA : OA} {nc : Nat} {MA : OA} {mc : Nat} {lt : Bool} {u : Nat} (F : IB R w1 W g b A n c k l NA nn nc MA mn mc lt) (gg : w.grownBy w1 (some g)) (hsz : w.heap.size + 1 <= b) (hgw : g < w.heap.size) (hk : k <= k') (h1 : m <= nn) (h2 : m <= mn) (h3 : nn <= u) (h4 : mn <= u) (hu : u <= 10) :
  RetCa R w g A n c k' l m u (.returned (.agg #[.slice NA nn nc, .slice MA mn mc, .bool lt])) (((W.setCell ⟨w.heap.size, 0, none⟩ (.slice NA nn nc)).setCell ⟨w.heap.size, 1, none⟩ (.slice MA mn mc)).setCell ⟨w.heap.size, 2, none⟩ (.bool lt)) := by
 have hr := F.hr;have hg := F.hg;have hsz' := gg.size;obtain ⟨nl, o1, s1⟩ := F.oN;obtain ⟨ml, o2⟩ := F.oM;have hle := F.cx.le;refine ⟨NA, nn, nc, MA, mn, mc, lt, rfl, (((F.cx.set Om Om 0 _).set Om Om 1 _).set Om Om 2 _).mono hk, grow_set (grow_set (grow_set (gg.trans F.gr) (Nat.le_refl _) 0 _) (Nat.le_refl _) 1 _) (Nat.le_refl _) 2 _, ⟨⟨nl, ?_, s1⟩, ⟨ml, ?_⟩, F.ne, ⟨h1, h2⟩, Om, Om⟩, h3, h4⟩
 ·
  exact (((o1.setLow Om).setLow Om).setLow Om).mono Om
 ·
  exact (((o2.setLow Om).setLow Om).setLow Om).mono Om
theorem called_any (h : Cx R w g A n c k l) (hk : k <= 900000) (B : OA) (m d : Nat) (L : List BA) (hb : RdT w B m L) (hs : ∀ x ∈ L, x.size <= 100) (hneb : ∀ z, blkOf B = some z -> z ≠ g) (hm1 : 1 <= m) (hm2 : m <= 1000) :
  Calls Tryz.prog 244 #[.pointer (some ⟨g, 0, none⟩), .slice B m d] w (RetCa R w g A n c (k + 40) l 1 3) := by
 have hgl := h.cur.lt;have hR := h.bel.size;have h0 := h.below (bAlloc (Below.refl _ w) zItm);have z0 := heap_alloc_new w zItm;have b0 := Rd.below hb (bAlloc (Below.refl _ w) zItm);go_enter Tryz.func244, Tryz.ntmps244;simp only [zItm] at h0 z0 b0;go_wp2_with fail
 refine (one_cx h0 3 Om Om Om).mono ?_;rintro e w1 ⟨lt, rfl, hC1, g1⟩;have h1 := h0.grow hC1 g1;have z1 := heap_kept z0 g1 Om;have b1 := Rd.keptR b0 g1 (fun z hz e => hneb z hz (by injection e));have gg1 := (World.grownBy_alloc w zItm (some g)).trans g1;have hsz1 := g1.size;simp only [World.size_alloc] at hsz1;clear h0 z0 b0 hC1 g1 h hb;go_wp2_with fail
 generalize hbb : w1.heap.size = b at *;have F1 : IB R w1 (w1.alloc (.cells #[.slice none 0 0, .slice none 0 0, .bool lt] 61)) g b A n c (k + 2) l none 0 0 none 0 0 lt := by
  have hB := bAlloc (Below.refl _ w1) (.cells #[.slice none 0 0, .slice none 0 0, .bool lt] 61);exact ⟨h1.below hB, grownBy_of_below hB, hbb, Om, hbb ▸ heap_alloc_new w1 _, ⟨[], OwT.nil_, fun x hx => (by cases hx)⟩, ⟨[], OwI.nil_⟩, .inl rfl⟩
 generalize w1.alloc (.cells #[.slice none 0 0, .slice none 0 0, .bool lt] 61) = W1 at *;have hbb := Lib.hid hbb;refine (pick_cx F1.cx 6 Om Om Om).mono ?_;intro e w2 hp;obtain ⟨v2, ⟨ha0, ha1⟩, rfl, h2, g2⟩ := F1.cx.pick hp;have F2 := F1.step h2 g2;obtain ⟨v, rfl⟩ : ∃ v : Nat, v2 = v := ⟨v2.toNat, Om⟩;clear hp F1 h2 g2 h1;have hN : ∃ N : Nat, 1 + v / 3 = N /\ 1 <= N /\ N <= 2 := ⟨_, rfl, Om, Om⟩;obtain ⟨N, hN, hN1, hN2⟩ := hN;have e1 : wrap64 (1 + wrap64 ((v : Int) / 3)) = N := by
  rw [IntWalk.wrap64_in ((v : Int) / 3) Om, IntWalk.wrap64_in _ Om]; omega
 clear hN ha0 ha1;go_wp2_with fail
 generalize wrap64 (1 + wrap64 ((v : Int) / 3)) = i1 at *;subst e1;generalize wrap64 ((v : Int) / 3) = i2 at *
 go_loopw [6] (fun i wr => ∃ (q j : Nat) (NA : OA) (nc : Nat) (MA : OA) (mc : Nat), j + q = N /\ i = .int .i64 q /\ IB R w1 wr g b A n c (k + 4 + 6 * j) l NA j nc MA j mc lt) (fun i _ => (intOf i).toNat)
 case atStart => exact ⟨N, 0, none, 0, none, 0, Om, rfl, F2.mono Om⟩
 case round =>
  exact Nonempty.elim (α := type_of% ?k1) (letI i : Nonempty (type_of% ?k1) := ⟨by
   clear F2;obtain ⟨q, j, NA, nc, MA, mc, hq, rfl, F⟩ := hrel;by_cases hq0 : 0 < q
   ·
    have hq0I : (0 : Int) < q := Om;have hr : RdT wr.drew B m L := Rd.below (Rd.keptR b1 F.gr (fun z hz e => hneb z hz (by injection e))) (bDrew (Below.refl _ wr));obtain ⟨⟨c0, c1, c2⟩, f0, f1, f2⟩ := F.cells;have hlt := F.lt_;have hj1 : j + 1 <= 1099511627776 := Om;have co := of_any F.drew.cx Om B m d L hr hneb hm1 hm2;go_upto_region 5 with fail
    go_cut [] from 18 to 25 (fun wx => ∃ (A' : OA) (c' : Nat), IB R w1 wx g b A n c (k + 4 + 6 * j + 2) l A' (j + 1) c' MA j mc lt)
    case first =>
     go_region_law (first | (go_simp; go_at_call 145; with_reducible refine co.mono ?_; rintro e w5 ⟨s, hsL, rfl, h5, g5⟩; have F5 := F.drew.step h5 g5; obtain ⟨⟨d0, d1, d2⟩, e0, e1, e2⟩ := F5.cells; have hlt5 := F5.lt_; have F6 := F5.below (bAlloc bR (.cells #[.string s] 9)); obtain ⟨nl, hnl, hnext⟩ := F6.pushN) | (refine app_str rfl _ _ F6.lt_ rfl rfl hj1 rfl hnl (newT _ s) ?_; intro A' c' w7 ho hg hd; obtain ⟨hz7, F7⟩ := hnext A' c' w7 s (hs s hsL) ho hg hd; obtain ⟨⟨y0, y1, y2⟩, x0, x1, x2⟩ := blk3 hz7; have hlt7 := (Array.getElem?_eq_some_iff.1 hz7).1))
     all_goals
      go_wp2;go_meet;exact ⟨_, _, F7⟩
    case rest =>
     obtain ⟨A', c', F7⟩ := hcut;clear c0 c1 c2 f0 f1 f2 hlt co hr F;have ca := among_litD F7.cx Om [0, 0, 0, 1, 2, 3] 6 wc.heap.size rfl rfl Om Om #[.int .i64 0, .int .i64 0, .int .i64 0, .int .i64 1, .int .i64 2, .int .i64 3] rfl 6;obtain ⟨⟨c0, c1, c2⟩, f0, f1, f2⟩ := F7.cells;have hlt := F7.lt_;go_wp2_with fail
     go_region_law (first | (go_simp; go_at_call 73; with_reducible refine ca.mono ?_; intro e w9 hp; obtain ⟨r, hr, rfl, h9, g9⟩ := RetAl.out hp; have F9 := F7.step h9 g9; obtain ⟨⟨d0, d1, d2⟩, e0, e1, e2⟩ := F9.cells; have hlt9 := F9.lt_; have F10 := F9.below (bAlloc bR (.cells #[.int .i64 r] 3)); obtain ⟨ml, hml, hnext⟩ := F10.pushM) | (refine app_int rfl _ _ F10.lt_ rfl rfl hj1 rfl hml (newI _ r) ?_; intro A2 c2' w11 ho hg hd; obtain ⟨hz7, F11⟩ := hnext A2 c2' w11 _ ho hg hd; obtain ⟨⟨y0, y1, y2⟩, x0, x1, x2⟩ := blk3 hz7; have hlt7 := (Array.getElem?_eq_some_iff.1 hz7).1))
     all_goals
      clear hml hnext ho hg hd hz7 y0 y1 y2 x0 x1 x2 hlt7 d0 d1 d2 e0 e1 e2 hlt9 F9 F10 h9 g9 c0 c1 c2 f0 f1 f2 hlt ca F7;generalize w11.setCell ⟨b, 1, none⟩ (.slice A2 (j + 1) c2') = w12 at *;have eq1 : IntKind.i64.wrap ((q : Int) - 1) = ((q - 1 : Nat) : Int) := by rw [IntWalk.i64_in _ Om]; omega
      go_wp2;go_roundw
      case rel => exact ⟨q - 1, j + 1, A', c', A2, c2', Om, rfl, F11.mono Om⟩
      case measure => simp [intOf]; omega
   ·
    obtain rfl : q = 0 := Om;obtain rfl : j = N := Om;go_wp2_with fail
    refine (one_cx F.cx 12 Om Om Om).mono ?_;rintro e w3 ⟨bo, rfl, hC3, g3⟩;have F3 := F.step (F.cx.grow hC3 g3) g3;clear F hC3 g3
    cases bo
    ·
     obtain ⟨⟨c0, c1, c2⟩, f0, f1, f2⟩ := F3.cells;have hlt := F3.lt_;have zz := heap_kept z1 F3.gr Om;obtain ⟨⟨y0, y1, y2⟩, x0, x1, x2⟩ := blk3 zz;have hlr := (Array.getElem?_eq_some_iff.1 zz).1;go_wp2;refine bodyPost_ret (v := .agg #[.slice NA j nc, .slice MA j mc, .bool lt]) (by simp [results, Tryz.results244, go_sem, c0, c1, c2, y0, y1, y2, x0, x1, x2, hlr]) rfl ?_;exact F3.toCa gg1 hsz1 hgl Om Om Om Om Om Om
    ·
     have hr : RdT w3.drew B m L := Rd.below (Rd.keptR b1 F3.gr (fun z hz e => hneb z hz (by injection e))) (bDrew (Below.refl _ w3));obtain ⟨⟨c0, c1, c2⟩, f0, f1, f2⟩ := F3.cells;have hlt := F3.lt_;have hj1 : j + 1 <= 1099511627776 := Om;have co := of_any F3.drew.cx Om B m d L hr hneb hm1 hm2;go_upto_region 8 with fail
     go_cut [] from 36 to 43 (fun wx => ∃ (A' : OA) (c' : Nat), IB R w1 wx g b A n c (k + 40) l A' (j + 1) c' MA j mc lt)
     case first =>
      go_region_law (first | (go_simp; go_at_call 145; with_reducible refine co.mono ?_; rintro e w5 ⟨s, hsL, rfl, h5, g5⟩; have F5 := F3.drew.step h5 g5; obtain ⟨⟨d0, d1, d2⟩, e0, e1, e2⟩ := F5.cells; have hlt5 := F5.lt_; have F6 := F5.below (bAlloc bR (.cells #[.string s] 9)); obtain ⟨nl, hnl, hnext⟩ := F6.pushN) | (refine app_str rfl _ _ F6.lt_ rfl rfl hj1 rfl hnl (newT _ s) ?_; intro A' c' w7 ho hg hd; obtain ⟨hz7, F7⟩ := hnext A' c' w7 s (hs s hsL) ho hg hd; obtain ⟨⟨y0, y1, y2⟩, x0, x1, x2⟩ := blk3 hz7; have hlt7 := (Array.getElem?_eq_some_iff.1 hz7).1))
      all_goals
       go_wp2;go_meet;exact ⟨_, _, F7.mono Om⟩
     case rest =>
      obtain ⟨A', c', F7⟩ := hcut;clear c0 c1 c2 f0 f1 f2 hlt co hr F3;obtain ⟨⟨c0, c1, c2⟩, f0, f1, f2⟩ := F7.cells;have hlt := F7.lt_;have F10 := F7.below (bAlloc bR (.cells #[.int .i64 0] 3));obtain ⟨ml, hml, hnext⟩ := F10.pushM;go_upto_region 10 with (at_builtin; (refine wpl_step fun E => ?_); refine app_int rfl _ _ F10.lt_ rfl rfl hj1 rfl hml (newI _ 0) ?_; intro A2 c2' w11 ho hg hd; obtain ⟨hz7, F11⟩ := hnext A2 c2' w11 _ ho hg hd; obtain ⟨⟨y0, y1, y2⟩, x0, x1, x2⟩ := blk3 hz7; have hlt7 := (Array.getElem?_eq_some_iff.1 hz7).1; clear hml hnext ho hg hd hz7 F10);clear y0 y1 y2 x0 x1 x2 hlt7 c0 c1 c2 f0 f1 f2 hlt F7;generalize w11.setCell ⟨b, 1, none⟩ (.slice A2 (j + 1) c2') = w12 at *;obtain ⟨⟨c0, c1, c2⟩, f0, f1, f2⟩ := F11.cells;have hlt := F11.lt_;have zz := heap_kept z1 F11.gr Om;obtain ⟨⟨y0, y1, y2⟩, x0, x1, x2⟩ := blk3 zz;have hlr := (Array.getElem?_eq_some_iff.1 zz).1;go_wp2;refine bodyPost_ret (v := .agg #[.slice A' (j + 1) c', .slice A2 (j + 1) c2', .bool lt]) (by simp [results, Tryz.results244, go_sem, c0, c1, c2, y0, y1, y2, x0, x1, x2, hlr]) rfl ?_;exact F11.toCa gg1 hsz1 hgl Om Om Om Om Om Om
   ⟩; by exact inferInstanceAs (Nonempty _)) (fun h => h)
def km (s : Nat) (κ κ' : Kf) : Kf := fun b => if b < s then κ b else κ' b
theorem km_lt {κ' : Kf} (h : b < s) : km s κ κ' b = κ b := if_pos h
theorem km_ge {κ' : Kf} (h : s <= b) : km s κ κ' b = κ' b := if_neg Om
theorem Kx.km_ (s : Nat) (κ κ' : Kf) : Kx s κ (km s κ κ') := fun _ hb => km_lt hb
section
variable {base base' b g n c m t : Nat} {w w' : World} {κ κ' : Kf} {A I : OA}
theorem Cf.mono {k : Nat × Nat × Nat} (h : Cf base w b k) (hb : base' <= base) : Cf base' w b k := by
 obtain ⟨h0, h | h | h⟩ := h
 ·
  obtain ⟨h1, l, h2⟩ := h;exact ⟨h0, .inl ⟨h1, l, h2.mono hb⟩⟩
 ·
  obtain ⟨h1, l, h2, h3⟩ := h;exact ⟨h0, .inr (.inl ⟨h1, l, h2.mono hb, h3⟩)⟩
 ·
  obtain ⟨h1, l, h2, h3⟩ := h;exact ⟨h0, .inr (.inr ⟨h1, l, Ow.mono h2 hb, h3⟩)⟩
theorem Th.mono (h : Th base κ w) (hb : base' <= base) : Th base' κ w := fun x hx => (h x hx).mono hb
theorem Th.merge (h : Th base κ w) (hg : w.grownBy w' (some g)) (hk : (κ g).1 = 0) (hb : base <= w.heap.size) (h2 : Th w.heap.size κ' w') : Th base (km w.heap.size κ κ') w' := fun x hx => by
 rcases Nat.lt_or_ge x w.heap.size with hlt | hge
 ·
  rw [km_lt hlt] at hx ⊢;exact (h x hx).row hg (fun e => by injection e with e; subst e; exact hx hk)
 ·
  rw [km_ge hge] at hx ⊢;exact (h2 x hx).mono hb
theorem SK.km_ (h : SK t κ' A n c) (h2 : Th w.heap.size κ' w') (ht : t ≠ 0) : SK t (km w.heap.size κ κ') A n c := by
 rcases h with h | ⟨b, h1, h3⟩
 ·
  exact .inl h
 ·
  exact .inr ⟨b, h1, (km_ge (h2.blk (b := b) (by rw [h3]; exact ht)).1).trans h3⟩
theorem ItC.km_ {xs : List Value} {j : Nat} (h : ItC κ' m xs j) (h2 : Th w.heap.size κ' w') : ItC (km w.heap.size κ κ') m xs j := by
 obtain ⟨NA, nn, nc, MA, mn, mc, lt, q1, q2, q3, q4, q5, q6⟩ := h;exact ⟨NA, nn, nc, MA, mn, mc, lt, q1, q2, q3, q4.km_ h2 Om, q5.km_ h2 Om, q6⟩
theorem OL.km_ (h : OL w.heap.size κ' m w' I n c) (h2 : Th w.heap.size κ' w') (hb : base <= w.heap.size) : OL base (km w.heap.size κ κ') m w' I n c := by
 obtain ⟨xs, q1, q2, q3⟩ := h;exact ⟨xs, Ow.mono q1 hb, fun b e => (congrArg (·.1) (km_ge (q1.blk e).1)).trans (q2 b e), fun j hj => (q3 j hj).km_ h2⟩
theorem Th.upIt {NA MA : OA} {nc mc : Nat} (hT : Th base κ w) (h : ItO t m w NA nn nc MA mn mc) (ht : base <= t) : ∃ κ', Kx t κ κ' /\ Th base κ' w /\ SK 2 κ' NA nn nc /\ SK 1 κ' MA mn mc /\ m <= nn /\ m <= mn /\ ∀ b, blkOf NA ≠ some b -> blkOf MA ≠ some b -> κ' b = κ b := by
 obtain ⟨⟨nl, o1, s1⟩, ⟨ml, o2⟩, hne, ⟨h1, h2⟩, h3, h4⟩ := h;obtain ⟨κ1, x1, T1, S1, e1⟩ := hT.upS (s := t) (o1.mono ht) s1 Om (fun b hb => (o1.blk hb).1);obtain ⟨κ2, x2, T2, S2, e2⟩ := T1.upI (s := t) (o2.mono ht) Om (fun b hb => (o2.blk hb).1);refine ⟨κ2, x1.trans_ x2 (Nat.le_refl _), T2, ?_, S2, h1, h2, fun b hb hb' => (e2 b hb').trans (e1 b hb)⟩
 rcases S1 with S1 | ⟨b, rfl, hb⟩
 ·
  exact .inl S1
 ·
  refine .inr ⟨b, rfl, (e2 b fun e => ?_).trans hb⟩
  rcases hne with hne | hne
  ·
   cases hne
  ·
   exact hne e.symm
theorem Th.atI (h : Th base κ w) (hk : κ b = (1, n, c)) : n <= 1000 /\ ∃ l, OwI base w (some ⟨b, 0, none⟩) n c l := by
 obtain ⟨h0, h | h | h⟩ := h b (by rw [hk]; simp)
 ·
  rw [hk] at h h0; exact ⟨h0, h.2⟩
 ·
  rw [hk] at h; simp at h
 ·
  rw [hk] at h; simp at h
end
section
variable {base m n c t : Nat} {κ : Kf} {wr W : World} {I NA MA : OA} {nn nc mn mc : Nat} {lt : Bool}
theorem OL.pushNew {row : Option Nat} (hT : Th base κ wr) (h : OL base κ m wr I n c) (hW : wr.grownBy W row) (hr : ∀ b, row = some b -> b < base) (hi : ItO t m W NA nn nc MA mn mc) (ht : wr.heap.size <= t) (hb : base <= wr.heap.size) :
  ∃ xs, Ow 61 3 base W I n c xs /\ ∀ (I' : OA) (c' : Nat) (W4 w' : World), Below W.heap.size W W4 -> Ow 61 3 base w' I' (n + 1) c' (xs ++ [.slice NA nn nc, .slice MA mn mc, .bool lt]) -> W4.grownBy w' (blkOf I) -> (blkOf I' = blkOf I ∨ blkOf I' = some W4.heap.size) ->
   ∃ κ', Kx wr.heap.size κ κ' /\ Th base κ' w' /\ OL base κ' m w' I' (n + 1) c' := by
 have h1 := h.row hW (fun b hb e => by have := (h.blk hb).1; have := hr b e.symm; omega);obtain ⟨xs, q1, q2, q3⟩ := h1;refine ⟨xs, q1, fun I' c' W4 w' hW4 ho hg hd => ?_⟩;have T1 := hT.row hW (fun b e => hT.low_ (hr b e));obtain ⟨κ', hx, T2, S1, S2, m1, m2, he⟩ := T1.upIt hi Om;have hz := hW.size;have hx' : Kx wr.heap.size κ κ' := hx.mono_ ht;have hkI : ∀ b, blkOf I = some b -> (κ' b).1 = 0 := fun b e => by
  rw [hx' b (h.blk e).2.1];exact q2 b e
 have T3 := T2.below hW4;have T4 := T3.row hg hkI;refine ⟨κ', hx', T4, OL.push (xs := xs) (fun j hj => (q3 j hj).kx hT hx') q1.len ho (fun b e => ?_) S1 S2 m1 m2⟩
 rcases hd with hd | hd
 ·
  exact hkI b (hd ▸ e)
 ·
  rw [hd] at e;injection e with e;subst e;exact T3.new_ (Nat.le_refl _)
end
structure LS (R w W : World) (g : Nat) (A : OA) (n c k : Nat) (l : List Int) (κ : Kf) (m : Nat) (I : OA) (p q : Nat) : Prop where
 cx : Cx R W g A n c k l
 gr : w.grownBy W (some g)
 hg : g < w.heap.size
 th : Th w.heap.size κ W
 ol : OL w.heap.size κ m W I p q
section
variable {R w W W' wr : World} {g n c k k' m p q t : Nat} {A I NA MA : OA} {l : List Int} {κ : Kf} {nn nc mn mc : Nat} {lt : Bool}
theorem LS.step (F : LS R w W g A n c k l κ m I p q) (hX : Cx R W' g A n c k' l) (hg : W.grownBy W' (some g)) : LS R w W' g A n c k' l κ m I p q :=
 ⟨hX, F.gr.trans hg, F.hg, F.th.grow hg (F.th.low_ F.hg), F.ol.row hg (fun b hb e => by injection e with e; have := (F.ol.blk hb).1; have := F.hg; omega)⟩
theorem LS.below (F : LS R w W g A n c k l κ m I p q) (hb : Below W.heap.size W W') : LS R w W' g A n c k l κ m I p q := F.step (F.cx.below hb) (grownBy_of_below hb)
theorem LS.drew (F : LS R w W g A n c k l κ m I p q) : LS R w W.drew g A n c k l κ m I p q := F.below (bDrew bR)
theorem LS.mono (F : LS R w W g A n c k l κ m I p q) (hk : k <= k') : LS R w W g A n c k' l κ m I p q := ⟨F.cx.mono hk, F.gr, F.hg, F.th, F.ol⟩
theorem LS.low (F : LS R w W g A n c k l κ m I p q) {m' : Nat} (hm : m' <= m) : LS R w W g A n c k l κ m' I p q := ⟨F.cx, F.gr, F.hg, F.th, F.ol.low hm⟩
theorem LS.start (h : Cx R w g A n c k l) : LS R w w g A n c k l k0 m none 0 0 := ⟨h, World.grownBy.refl w _, h.cur.lt, Th.k0_, OL.nil_⟩
theorem LS.grown {W4 : World} (hX : Cx R W g A n c k l) (gr : w.grownBy W (some g)) (hgw : g < w.heap.size) (hW4 : Below W.heap.size W W4) (hg : W4.grownBy w' (blkOf I)) (hI : ∀ b, blkOf I = some b -> w.heap.size <= b) : Cx R w' g A n c k l /\ w.grownBy w' (some g) :=
 ⟨(hX.below hW4).row hg (fun e => by have := hI g e; omega) (fun b e => by have := hI b e; have := hX.le; omega), grown_new (gr.trans (grownBy_of_below hW4)) hg (fun b e => hI b e)⟩
theorem LS.push (F : LS R w wr g A n c k l κ m I p q) (hX : Cx R W g A n c k' l) (hg : wr.grownBy W (some g)) (hi : ItO t m W NA nn nc MA mn mc) (ht : wr.heap.size <= t) :
  ∃ xs, Ow 61 3 w.heap.size W I p q xs /\ ∀ (I' : OA) (c' : Nat) (W4 w' : World), Below W.heap.size W W4 -> Ow 61 3 w.heap.size w' I' (p + 1) c' (xs ++ [.slice NA nn nc, .slice MA mn mc, .bool lt]) -> W4.grownBy w' (blkOf I) -> (blkOf I' = blkOf I ∨ blkOf I' = some W4.heap.size) ->
   ∃ κ', LS R w w' g A n c k' l κ' m I' (p + 1) c' := by
 obtain ⟨xs, h1, h2⟩ := OL.pushNew (lt := lt) F.th F.ol hg (fun b e => by injection e with e; have := F.hg; omega) hi ht F.gr.size;refine ⟨xs, h1, fun I' c' W4 w' a1 a2 a3 a4 => ?_⟩;obtain ⟨κ', b1, b2, b3⟩ := h2 I' c' W4 w' a1 a2 a3 a4;obtain ⟨e1, e2⟩ := LS.grown hX (F.gr.trans hg) F.hg a1 a3 (fun b e => (F.ol.blk e).1);exact ⟨κ', e1, e2, F.hg, b2, b3⟩
end
def RetDL (R w : World) (g : Nat) (A : OA) (n c k : Nat) (l : List Int) (m u : Nat) (e : Ending) (w' : World) : Prop := ∃ (I : OA) (p q : Nat) (κ : Kf), e = .returned (.slice I p q) /\ LS R w w' g A n c k l κ m I p q /\ p <= u
theorem l1OwnS_own (w : World) (A : OA) (n c : Nat) (l : List BA) (ha : RdT w A n l) (hn : n <= 1099511627776) :
  Calls Tryz.prog 174 #[.slice A n c] w (RetT w l) := by
 have o0 := OwT.lit_ (Below.refl w.heap.size w) [] (by simp [maxLen]) #[] rfl;have hn0 : 0 + n <= 1099511627776 := Om;have hB := bAlloc (Below.refl w.heap.size w) (.cells #[] 9);go_enter Tryz.func174, Tryz.ntmps174;go_wp2_with (at_builtin; (refine wpl_step fun E => ?_); refine app_str rfl _ _ hB.size rfl rfl hn0 rfl o0 (RdT.below ha hB) ?_; intro A' c' w' ho hg hd)
 go_ret;exact RetT.mk_ (by simpa using ho) (Nat.le_refl _) (below_grown hB hg (fun k hk => by simp [blkOf] at hk; omega))
theorem its_own {nc' mc' n1 n2 : Nat} {A1 A2 : OA} {nl : List BA} {ml : List Int} (o1 : OwT b W A1 n1 nc' nl) (sN : ∀ x ∈ nl, x.size <= 100) {x : World} (o2 : OwI W.heap.size (ext W x) A2 n2 mc' ml) (h1 : nl.length = nn) (h2 : ml.length = mn) (m1 : m <= nn) (m2 : m <= mn) (hn1 : nn <= 1000) (hn2 : mn <= 1000) (hb : b <= W.heap.size := by first | exact Nat.le_refl _ | simp [go_sem]) : ItO b m (ext W x) A1 n1 nc' A2 n2 mc' := by
 have e1 := o1.len;have e2 := o2.len;refine ⟨⟨nl, o1.below (ext_below _ _), sN⟩, ⟨ml, o2.mono hb⟩, ?_, ⟨Om, Om⟩, Om, Om⟩
 cases hz : blkOf A1 with
 | none => exact .inl rfl
 | some z => exact .inr fun e => by have h3 := (o1.blk hz).2; have h4 := (o2.blk e.symm).1; omega
def RetOL (m n : Nat) (w : World) (e : Ending) (w' : World) : Prop := ∃ (I : OA) (c : Nat) (κ : Kf) (x : World), e = .returned (.slice I n c) /\ w' = ext w x /\ Th w.heap.size κ (ext w x) /\ OL w.heap.size κ m (ext w x) I n c
theorem itOwn_any {base : Nat} (w : World) (I : OA) (hT : Th base κ w) (h : OL base κ m w I n c) (hn : n <= 1000) :
  Calls Tryz.prog 123 #[.slice I n c] w (RetOL m n w) := by
 go_enter Tryz.func123, Tryz.ntmps123;go_wp2
 go_loopw [3, 5, 8] (fun s _ i wr => ∃ (k : Nat) (J : OA) (cj : Nat) (κ' : Kf), k <= n /\ i = .int .i64 k /\ s = .slice J k cj /\ Below w.heap.size w wr /\ Th w.heap.size κ' wr /\ OL w.heap.size κ' m wr J k cj) (fun _ _ i _ => n - (intOf i).toNat)
 case atStart => exact ⟨0, none, 0, k0, Nat.zero_le _, rfl, rfl, Below.refl _ _, Th.k0_, OL.nil_⟩
 case round =>
  obtain ⟨k, J, cj, κ', hk, rfl, rfl, hB, hT', hO⟩ := hrel;by_cases hlt : k < n
  ·
   obtain ⟨b, NA, nn, nc, MA, mn, mc, lt, rfl, hb, _, _, h1, h2, h3, _, SN, SM, m1, m2⟩ := h.at_ hlt;obtain ⟨hn1, nl, oN, sN⟩ := SN.strs hT;obtain ⟨hn2, ml, oM⟩ := SM.ints hT;have hb2 := hB.size;have g1 : wr.cell? ⟨b, k * 3, none⟩ = some (.slice NA nn nc) := (hB.cell (p := ⟨b, k * 3, none⟩) hb).trans h1;have g2 : wr.cell? ⟨b, k * 3 + 1, none⟩ = some (.slice MA mn mc) := (hB.cell (p := ⟨b, k * 3 + 1, none⟩) hb).trans h2;have g3 : wr.cell? ⟨b, k * 3 + 2, none⟩ = some (.bool lt) := (hB.cell (p := ⟨b, k * 3 + 2, none⟩) hb).trans h3;have hbr : b < wr.heap.size := Om;have hltI : (k : Int) < n := Om;clear h1 h2 h3;have b1 := bAlloc (Below.refl wr.heap.size wr) (.cells #[.slice NA nn nc, .slice MA mn mc, .bool lt] 61);have hcell := blk3 (heap_alloc_new wr (.cells #[.slice NA nn nc, .slice MA mn mc, .bool lt] 61));have hbx : wr.heap.size < (wr.alloc (.cells #[.slice NA nn nc, .slice MA mn mc, .bool lt] 61)).heap.size := by simp
   have rN : RdT (wr.alloc (.cells #[.slice NA nn nc, .slice MA mn mc, .bool lt] 61)) NA nn nl := (RdT.below oN.rd hB).below b1;have rM : RdI (wr.alloc (.cells #[.slice NA nn nc, .slice MA mn mc, .bool lt] 61)) MA mn ml := (RdI.below oM.rd hB).below b1;go_upto_region 5 with fail;generalize wr.alloc (.cells #[.slice NA nn nc, .slice MA mn mc, .bool lt] 61) = W1 at *;generalize hbb : wr.heap.size = bx at *;obtain ⟨⟨c0, c1, c2⟩, f0, f1, f2⟩ := hcell;have hS := fun (W : World) (hW : Below W1.heap.size W1 W) => (⟨(hW.cell (p := ⟨bx, 0, none⟩) hbx).trans c0, (hW.cell (p := ⟨bx, 1, none⟩) hbx).trans c1, (hW.cell (p := ⟨bx, 2, none⟩) hbx).trans c2⟩ : W.cell? ⟨bx, 0, none⟩ = some (.slice NA nn nc) /\ W.cell? ⟨bx, 1, none⟩ = some (.slice MA mn mc) /\ W.cell? ⟨bx, 2, none⟩ = some (.bool lt))
   have hJ : some bx ≠ blkOf J := fun e => by have := (hO.blk e.symm).2.1; omega
   have hSg := fun (W W' : World) (hW : Below W1.heap.size W1 W) (hg : W.grownBy W' (blkOf J)) => (⟨hg.cell (hS W hW).1 hJ, hg.cell (hS W hW).2.1 hJ, hg.cell (hS W hW).2.2 hJ⟩ : W'.cell? ⟨bx, 0, none⟩ = some (.slice NA nn nc) /\ W'.cell? ⟨bx, 1, none⟩ = some (.slice MA mn mc) /\ W'.cell? ⟨bx, 2, none⟩ = some (.bool lt))
   have hk1 : k + 1 <= 1099511627776 := Om;clear c0 c1 c2 f0 f1 f2 g1 g2 g3 oN oM hbr;have Hbb := Lib.hid hbb;clear hbb
   go_region_held3 (fun w' => w'.cell? ⟨bx, 0, none⟩ = some (.slice NA nn nc) /\ w'.cell? ⟨bx, 1, none⟩ = some (.slice MA mn mc) /\ w'.cell? ⟨bx, 2, none⟩ = some (.bool lt)) (first | exact hS9 | exact hS _ bL) (first | (go_at_call 174; ((with_reducible refine (l1OwnS_own _ NA nn nc nl (rN.below bL) Om).mono ?_); rintro e w' ⟨A1, n1, c1, x1, rfl, rfl, o1⟩)) | (go_at_call 175; ((with_reducible refine (l1Own_any _ MA mn mc ml (rM.below bL) Om).mono ?_); rintro e w' ⟨A2, n2, c2, x2, rfl, rfl, o2⟩; obtain ⟨xs, q1, hpush⟩ := OL.pushNew (W := ext (ext W1.drew x1) x2) (row := none) (lt := lt) hT' hO (grownBy_of_below (by rw [Hbb.out]; exact b1.trans ((show Below W1.heap.size W1 _ from bL).mono (Nat.le_of_lt hbx)))) (fun b e => by cases e) (its_own o1 sN o2 (rN.len) (rM.len) m1 m2 hn1 hn2) (by rw [Hbb.out]; exact Nat.le_of_lt hbx) (by rw [Hbb.out]; exact hb2))) | (refine app_item rfl _ _ (Nat.le_trans hb2 (Nat.le_trans (Nat.le_of_lt hbx) (show Below W1.heap.size W1 _ from bL).size)) rfl rfl hk1 rfl (q1.below (bAlloc bR _)) (newItem _ _ _ _) (by simp [Value.oneCell']) ?_; intro A' c' w' ho hg hd; have hS9 := hSg _ _ bL hg))
   all_goals
    obtain ⟨κ2, _, T2, O2⟩ := hpush A' c' _ w' (bAlloc bR _) ho hg hd;have hB2 : Below w.heap.size w w' := below_grown (hB.trans ((b1.trans ((show Below W1.heap.size W1 _ from bL).mono (Nat.le_of_lt hbx))).mono hb2)) hg (fun z hz => (hO.blk hz).1);clear hpush q1 o1 o2 hS hSg hS9 ho hg hd;go_wp2;go_roundw
    case rel => exact ⟨k + 1, A', c', κ2, Om, by go_num, rfl, hB2, T2, O2⟩
    case measure => simp [intOf]; omega
  ·
   go_wp2;go_ret;obtain rfl : k = n := Om;obtain ⟨x, rfl⟩ := ext_ex hB;exact ⟨J, cj, κ', x, rfl, rfl, hT', hO⟩
theorem pgLate_any {base : Nat} (w : World) (I : OA) (hT : Th base κ w) (h : OL base κ m w I n c) (hn : n <= 1000) :
  Calls Tryz.prog 170 #[.slice I n c] w (RetOL m n w) := by
 go_enter Tryz.func170, Tryz.ntmps170;go_wp2_with ((go_at_call 123; ((with_reducible refine (itOwn_any _ I hT h hn).mono ?_); rintro e w' ⟨J, cj, κ', x, rfl, rfl, hT', hO⟩)))
 have hB := ext_below w x;generalize ext w x = W1 at *
 go_loopw [4, 9] (fun _ i wr => ∃ (k : Nat), k <= n /\ i = .int .i64 k /\ Below w.heap.size w wr /\ Th w.heap.size κ' wr /\ OL w.heap.size κ' m wr J n cj) (fun _ i _ => n - (intOf i).toNat)
 case atStart => exact ⟨0, Nat.zero_le _, rfl, hB, hT', hO⟩
 case round =>
  clear hB hT' hO;obtain ⟨k, hk, rfl, hB, hT', hO⟩ := hrel;by_cases hlt : k < n
  ·
   obtain ⟨b, NA, nn, nc, MA, mn, mc, lt, rfl, hb, hbb, hk0, h1, h2, h3, hf, SN, SM, m1, m2⟩ := hO.at_ hlt;have hltI : (k : Int) < n := Om;have hf2 := hf (k * 3 + 2);have HL := fun v => hO.setL hlt v
   have HT := fun v => hT'.set0 (j := k * 3 + 2) (v := v) hk0
   have HB := fun v => below_grown hB (gSetM wr b (k * 3 + 2) v) (fun q e => by injection e with e; omega)
   go_wp2;go_roundw
   case rel => exact ⟨k + 1, Om, by go_num, HB _, HT _, HL _⟩
   case measure => simp [intOf]; omega
  ·
   go_wp2;go_ret;obtain ⟨x, rfl⟩ := ext_ex hB;exact ⟨J, cj, κ', x, rfl, rfl, hT', hO⟩
end Go.Proofs.YtlfhhkgleapamaaGreatDoor
