/- The reference's cursor: what next, pick, one, among do. Conditions: fewer than 2^40 choices, inputs below 2^40 bytes. -/
import Derived.Test.YtlfhhkgleapamaaGreatDoorRBase0
import Derived.Laws.Bits64b
import Derived.Laws.Rows
set_option linter.unusedVariables false
set_option linter.unusedSimpArgs false
set_option maxRecDepth 100000
set_option maxHeartbeats 16000000
namespace Go.Proofs.YtlfhhkgleapamaaGreatDoor
open Go.RowKit Go.ChangeShapes Go.WideShapes Go.ChangeAt Go.Deep
variable {ll : List (List Int)} {l : List Int} {b base c d0 g hi k k' m m0 n : Nat} {A B0 : OA} {R W w w' : World}
def CurW (w : World) (g : Nat) (A : OA) (n c k : Nat) : Prop := ∃ (a : Nat) (s : Int), (a <= k /\ 0 <= s /\ s <= 18446744073709551615) /\ w.heap[g]? = some (.cells #[.slice A n c, .int .i64 a, .int .u64 s] 70 (0, 0))
def RdY (w : World) (A : OA) (n : Nat) (l : List Int) : Prop := Rd 1 w A n (l.map (Value.int .u8)) /\ ∀ x ∈ l, 0 <= x /\ x <= 255
theorem RdY.below (h : RdY w A n l) (hb : Below w.heap.size w w') : RdY w' A n l := ⟨Rd.below h.1 hb, h.2⟩
theorem RdY.open_ (h : RdY w A n l) (hk : k < n) : ∃ b off v, A = some ⟨b, off, none⟩ /\ b < w.heap.size /\ w.cell? ⟨b, off + k, none⟩ = some (.int .u8 v) /\ 0 <= v /\ v <= 255 := by
 have hl : l.length = n := by have := h.1.1; simpa using this
 obtain ⟨b, off, e, hlt, hc⟩ := h.1.2 Om;refine ⟨b, off, l[k]?.getD 0, e, hlt, hc k _ ?_, h.2 _ (getD_mem 0 l k Om)⟩;simp [show k < l.length by omega]
theorem CurW.lt (h : CurW w g A n c k) : g < w.heap.size := by
 obtain ⟨a, s, _, h⟩ := h
 rcases Nat.lt_or_ge g w.heap.size with h' | h'
 ·
  exact h'
 ·
  simp [Array.getElem?_eq_none h'] at h
theorem CurW.mono (h : CurW w g A n c k) (hk : k <= k') : CurW w g A n c k' := by
 obtain ⟨a, s, ⟨h1, h2⟩, h3⟩ := h; exact ⟨a, s, ⟨Om, h2⟩, h3⟩
theorem CurW.kept {row : Option Nat} (h : CurW w g A n c k) (hg : w.grownBy w' row) (hne : some g ≠ row) : CurW w' g A n c k := by
 have hlt := h.lt;obtain ⟨a, s, h1, h3⟩ := h;exact ⟨a, s, h1, (hg.block g hlt hne).trans h3⟩
theorem CurW.below (h : CurW w g A n c k) (hb : Below w.heap.size w w') : CurW w' g A n c k := h.kept (grownBy_of_below (row := none) hb) (by simp)
theorem cur_cells {x y z : Value} (h : w.heap[g]? = some (.cells #[x, y, z] 70 (0, 0))) : w.cell? ⟨g, 0, none⟩ = some x /\ w.cell? ⟨g, 1, none⟩ = some y /\ w.cell? ⟨g, 2, none⟩ = some z /\ w.frozen? ⟨g, 1, none⟩ = false /\ w.frozen? ⟨g, 2, none⟩ = false := by
 refine ⟨?_, ?_, ?_, ?_, ?_⟩ <;> simp [World.cell?, World.frozen?, h]
theorem cur_set {x y z y' z' : Value} (h : w.heap[g]? = some (.cells #[x, y, z] 70 (0, 0))) : ((w.setCell ⟨g, 1, none⟩ y').setCell ⟨g, 2, none⟩ z').heap[g]? = some (.cells #[x, y', z'] 70 (0, 0)) := by
 have h1 := heap_setCell_same w g 1 _ _ y' h;exact heap_setCell_same _ g 2 _ _ z' h1
theorem cur_grown (w : World) (g i : Nat) (v : Value) : w.grownBy (w.setCell ⟨g, i, none⟩ v) (some g) :=
 ⟨rfl, rfl, rfl, by simp, fun k _ hk => Below.heap_setCell w _ v k (fun e => hk (by rw [e]))⟩
theorem u64_bd (x : Int) : 0 <= IntKind.u64.wrap x /\ IntKind.u64.wrap x <= 18446744073709551615 := by rw [IntKind.wrap_u64]; omega
theorem cur_made {q a : Nat} {s z : Int} (h : w.heap[g]? = some (.cells #[.slice A n c, .int .i64 a, .int .u64 s] 70 (0, 0))) (ha : a <= k) :
  CurW ((((w.drewN m).setCell ⟨g, 1, none⟩ (.int .i64 ((a : Int) + 1))).setCell ⟨g, 2, none⟩ (.int .u64 (IntKind.u64.wrap z))).drewN q) g A n c (k + 1) :=
 ⟨a + 1, IntKind.u64.wrap z, ⟨Om, u64_bd z⟩, cur_set (y' := .int .i64 ((a : Int) + 1)) (z' := .int .u64 (IntKind.u64.wrap z)) h⟩
theorem low8 (X : Int) (h0 : 0 <= X) (h1 : X <= 18446744073709551615) : 0 <= wrap64 (bits BinOp.and IntKind.u64 (X / 1099511627776) 255) /\ wrap64 (bits BinOp.and IntKind.u64 (X / 1099511627776) 255) <= 255 := by
 have e : X / 1099511627776 = ((X.toNat / 1099511627776 : Nat) : Int) := Om;have h := bits_and_u64_nat (X.toNat / 1099511627776) 255 Om Om;rw [e];have h' : bits BinOp.and IntKind.u64 ((X.toNat / 1099511627776 : Nat) : Int) 255 = ((X.toNat / 1099511627776 &&& 255 : Nat) : Int) := h;rw [h'];have h2 : X.toNat / 1099511627776 &&& 255 <= 255 := Nat.and_le_right;rw [IntWalk.wrap64_in _ Om];omega
def RetNx (w : World) (g : Nat) (A : OA) (n c k : Nat) (lo hi : Int) (e : Ending) (w' : World) : Prop := ∃ r : Int, (lo <= r /\ r <= hi) /\ e = .returned (.int .i64 r) /\ CurW w' g A n c k /\ w.grownBy w' (some g)
theorem next_any (w : World) (g : Nat) (A : OA) (n c k : Nat) (l : List Int) (hC : CurW w g A n c k) (hr : RdY w A n l) (hne : 0 < n -> blkOf A ≠ some g) (hn : n <= 9223372036854775807) (hk : k <= 1099511627776) :
  Calls Tryz.prog 106 #[.pointer (some ⟨g, 0, none⟩)] w (RetNx w g A n c (k + 1) 0 255) := by
 have hgl := hC.lt;obtain ⟨a, s, ⟨ha, hs0, hs1⟩, hh⟩ := hC;obtain ⟨hc0, hc1, hc2, hf1, hf2⟩ := cur_cells hh;have HH := Lib.hid hh;clear hh;by_cases hlt : a < n
 ·
  obtain ⟨b, off, v, rfl, hb, hcv, hv0, hv1⟩ := hr.open_ hlt;have hltI : (a : Int) < n := Om;have hneb : ¬ b = g := fun e => hne Om (by rw [e]; rfl)
  go_enter Tryz.func106, Tryz.ntmps106;go_wp2
  go_quiet (fail)
  go_wp2
  go_quiet (fail)
  go_wp2
  go_quiet (fail)
  go_wp2;go_ret;exact ⟨v, ⟨hv0, hv1⟩, rfl, cur_made HH.out ha, gDrewN ((gDrewN (World.grownBy.refl w (some g)) _).trans ((cur_grown _ g 1 _).trans (cur_grown _ g 2 _))) _⟩
 ·
  have hltI : ¬ (a : Int) < n := Om;have hltJ : ¬ (a : Int) + 1 <= n := Om;go_enter Tryz.func106, Tryz.ntmps106;go_wp2
  go_quiet (fail)
  go_wp2
  go_quiet (fail)
  go_wp2;go_ret;exact ⟨_, low8 _ (u64_bd _).1 (u64_bd _).2, rfl, cur_made HH.out ha, gDrewN ((gDrewN (World.grownBy.refl w (some g)) _).trans ((cur_grown _ g 1 _).trans (cur_grown _ g 2 _))) _⟩
theorem RdY.kept (h : RdY w A n l) (hg : w.grownBy w' (some g)) (hne : 0 < n -> blkOf A ≠ some g) : RdY w' A n l := by
 refine ⟨⟨h.1.1, fun hn => ?_⟩, h.2⟩;obtain ⟨b, off, rfl, hlt, hc⟩ := h.1.2 hn;refine ⟨b, off, rfl, Nat.lt_of_lt_of_le hlt hg.size, fun j u hu => ?_⟩;exact hg.cell (a := ⟨b, off + j, none⟩) (hc j u hu) (fun e => hne Om e)
theorem RdI.kept (h : RdI w A n l) (hg : w.grownBy w' (some g)) (hne : blkOf A ≠ some g) : RdI w' A n l := by
 refine ⟨h.1, fun hn => ?_⟩;obtain ⟨b, off, rfl, hlt, hc⟩ := h.2 hn;refine ⟨b, off, rfl, Nat.lt_of_lt_of_le hlt hg.size, fun j u hu => ?_⟩;exact hg.cell (a := ⟨b, off + j, none⟩) (hc j u hu) (fun e => hne e)
theorem pick_any (w : World) (g : Nat) (A : OA) (n c k : Nat) (l : List Int) (q : Int) (hC : CurW w g A n c k) (hr : RdY w A n l) (hne : 0 < n -> blkOf A ≠ some g) (hn : n <= 9223372036854775807) (hk : k <= 1099511627000) (hq1 : 1 <= q) (hq2 : q <= 1099511627776) :
  Calls Tryz.prog 56 #[.pointer (some ⟨g, 0, none⟩), .int .i64 q] w (RetNx w g A n c (k + 2) 0 (q - 1)) := by
 by_cases h1 : q <= 1
 ·
  obtain rfl : q = 1 := Om;go_enter Tryz.func56, Tryz.ntmps56;go_wp2;go_ret;exact ⟨0, Om, rfl, hC.mono Om, World.grownBy.refl _ _⟩
 ·
  by_cases h2 : 200 < q
  ·
   go_enter Tryz.func56, Tryz.ntmps56;go_wp2_with fail
   refine (next_any _ g A n c k l hC hr hne hn Om).mono ?_;rintro e w1 ⟨r1, ⟨ha0, ha1⟩, rfl, hC1, hg1⟩;go_wp2_with fail
   refine (next_any _ g A n c (k + 1) l hC1 (hr.kept hg1 hne) hne hn Om).mono ?_;rintro e w2 ⟨r2, ⟨hb0, hb1⟩, rfl, hC2, hg2⟩;go_wp2;go_ret;have h3 := Int.emod_nonneg (r1 * 256 + r2) (show q ≠ 0 by omega);have h4 := Int.emod_lt_of_pos (r1 * 256 + r2) (show 0 < q by omega);exact ⟨_, ⟨h3, Om⟩, rfl, hC2, hg1.trans hg2⟩
  ·
   go_enter Tryz.func56, Tryz.ntmps56;go_wp2_with fail
   refine (next_any _ g A n c k l hC hr hne hn Om).mono ?_;rintro e w1 ⟨r1, ⟨ha0, ha1⟩, rfl, hC1, hg1⟩;go_wp2;go_ret;have h3 := Int.emod_nonneg r1 (show q ≠ 0 by omega);have h4 := Int.emod_lt_of_pos r1 (show 0 < q by omega);exact ⟨_, ⟨h3, Om⟩, rfl, hC1.mono Om, hg1⟩
def RetOn (w : World) (g : Nat) (A : OA) (n c k : Nat) (e : Ending) (w' : World) : Prop := ∃ b : Bool, e = .returned (.bool b) /\ CurW w' g A n c k /\ w.grownBy w' (some g)
theorem one_any (w : World) (g : Nat) (A : OA) (n c k : Nat) (l : List Int) (q : Int) (hC : CurW w g A n c k) (hr : RdY w A n l) (hne : 0 < n -> blkOf A ≠ some g) (hn : n <= 9223372036854775807) (hk : k <= 1099511627000) (hq1 : 1 <= q) (hq2 : q <= 1099511627776) :
  Calls Tryz.prog 61 #[.pointer (some ⟨g, 0, none⟩), .int .i64 q] w (RetOn w g A n c (k + 2)) := by
 go_enter Tryz.func61, Tryz.ntmps61;go_wp2_with fail
 refine (pick_any _ g A n c k l q hC hr hne hn hk hq1 hq2).mono ?_;rintro e w1 ⟨r1, ⟨ha0, ha1⟩, rfl, hC1, hg1⟩;go_wp2;go_ret;exact ⟨_, rfl, hC1, hg1⟩
def RetAm (w : World) (g : Nat) (A : OA) (n c k : Nat) (L : List Int) (e : Ending) (w' : World) : Prop := ∃ r : Int, r ∈ L /\ e = .returned (.int .i64 r) /\ CurW w' g A n c k /\ w.grownBy w' (some g)
theorem among_any (w : World) (g : Nat) (A : OA) (n c k : Nat) (l : List Int) (B : OA) (m d : Nat) (L : List Int) (hC : CurW w g A n c k) (hr : RdY w A n l) (hne : 0 < n -> blkOf A ≠ some g) (hn : n <= 9223372036854775807) (hk : k <= 1099511627000) (hb : RdI w B m L) (hneb : blkOf B ≠ some g) (hm1 : 1 <= m) (hm2 : m <= 1099511627776) :
  Calls Tryz.prog 73 #[.pointer (some ⟨g, 0, none⟩), .slice B m d] w (RetAm w g A n c (k + 2) L) := by
 have hl := hb.len;go_enter Tryz.func73, Tryz.ntmps73;go_wp2_with fail
 refine (pick_any _ g A n c k l m hC hr hne hn hk Om Om).mono ?_;rintro e w1 ⟨r1, ⟨ha0, ha1⟩, rfl, hC1, hg1⟩;obtain ⟨b, off, rfl, hlt, hc⟩ := (hb.kept hg1 hneb).open_ Om;obtain ⟨i, rfl⟩ : ∃ i : Nat, r1 = i := ⟨r1.toNat, Om⟩;have hi := hc i Om;rw [List.getD_eq_getElem?_getD] at hi;have hm := getD_mem 0 L i Om;clear hc;have hiI : (i : Int) < m := Om;go_wp2;go_ret;exact ⟨_, hm, rfl, hC1, hg1⟩
structure Cx (R w : World) (g : Nat) (A : OA) (n c k : Nat) (l : List Int) : Prop where
 cur : CurW w g A n c k
 rd : RdY R A n l
 bel : Below R.heap.size R w
 le : R.heap.size <= g
 nb : n <= 9223372036854775807
theorem Cx.ne (h : Cx R w g A n c k l) (hn : 0 < n) : blkOf A ≠ some g := by
 obtain ⟨b, off, rfl, hlt, _⟩ := h.rd.1.2 hn;intro e;have e : b = g := by simpa [blkOf] using e
 have := h.le;omega
theorem Cx.grow (h : Cx R w g A n c k l) (hC : CurW w' g A n c k') (hg : w.grownBy w' (some g)) : Cx R w' g A n c k' l :=
 ⟨hC, h.rd, below_grown h.bel hg (fun k hk => by injection hk with hk; have := h.le; omega), h.le, h.nb⟩
theorem Cx.below (h : Cx R w g A n c k l) (hb : Below w.heap.size w w') : Cx R w' g A n c k l :=
 ⟨h.cur.below hb, h.rd, h.bel.trans (hb.mono h.bel.size), h.le, h.nb⟩
theorem Cx.row {row : Option Nat} (h : Cx R w g A n c k l) (hg : w.grownBy w' row) (hne : row ≠ some g) (hr : ∀ b, row = some b -> R.heap.size <= b) : Cx R w' g A n c k l :=
 ⟨h.cur.kept hg (fun e => hne e.symm), h.rd, below_grown h.bel hg hr, h.le, h.nb⟩
theorem Cx.mono (h : Cx R w g A n c k l) (hk : k <= k') : Cx R w g A n c k' l := ⟨h.cur.mono hk, h.rd, h.bel, h.le, h.nb⟩
theorem pick_cx (h : Cx R w g A n c k l) (q : Int) (hk : k <= 1099511627000) (hq1 : 1 <= q) (hq2 : q <= 1099511627776) :
  Calls Tryz.prog 56 #[.pointer (some ⟨g, 0, none⟩), .int .i64 q] w (RetNx w g A n c (k + 2) 0 (q - 1)) := pick_any w g A n c k l q h.cur (h.rd.below h.bel) h.ne h.nb hk hq1 hq2
theorem one_cx (h : Cx R w g A n c k l) (q : Int) (hk : k <= 1099511627000) (hq1 : 1 <= q) (hq2 : q <= 1099511627776) :
  Calls Tryz.prog 61 #[.pointer (some ⟨g, 0, none⟩), .int .i64 q] w (RetOn w g A n c (k + 2)) := one_any w g A n c k l q h.cur (h.rd.below h.bel) h.ne h.nb hk hq1 hq2
theorem among_cx (h : Cx R w g A n c k l) (m d : Nat) (L : List Int) (hk : k <= 1099511627000) (hb : RdI w (some ⟨b, 0, none⟩) m L) (hneb : g < b) (hm1 : 1 <= m) (hm2 : m <= 1099511627776) :
  Calls Tryz.prog 73 #[.pointer (some ⟨g, 0, none⟩), .slice (some ⟨b, 0, none⟩) m d] w (RetAm w g A n c (k + 2) L) := among_any w g A n c k l _ m d L h.cur (h.rd.below h.bel) h.ne h.nb hk hb (by simp [blkOf]; omega) hm1 hm2
def Nw (w : World) (D : OA) : Prop := ∀ b, blkOf D = some b -> w.heap.size <= b
theorem Nw.ne' {D : OA} (h : Nw w D) (hg : g < w.heap.size) : blkOf D ≠ some g := fun e => by have := h g e; omega
theorem grown_new {W' : World} {row : Option Nat} {D : OA} (h : w.grownBy W row) (hg : W.grownBy W' (blkOf D)) (hD : Nw w D) : w.grownBy W' row := by
 refine ⟨hg.os.trans h.os, hg.tape.trans h.tape, hg.output.trans h.output, Nat.le_trans h.size hg.size, fun k hk hne => ?_⟩;rw [hg.block k (Nat.lt_of_lt_of_le hk h.size) (fun e => by have := hD k e.symm; omega)];exact h.block k hk hne
theorem int_lit (l : List Int) (hl : l.length <= maxLen) (cs : Array Value) (hcs : cs.toList = l.map (Value.int .i64)) : RdI (w.alloc (.cells cs 3)) (some ⟨w.heap.size, 0, none⟩) l.length l := (OwI.lit_ (Below.refl _ w) l hl cs hcs).rd
theorem cx_new (hr : RdY w A n l) (hn : n <= 9223372036854775807) : Cx w (w.alloc (.cells #[.slice A n c, .int .i64 0, .int .u64 0] 70)) w.heap.size A n c 0 l := by
 refine ⟨⟨0, 0, Om, ?_⟩, hr, bAlloc bR _, Nat.le_refl _, hn⟩;exact heap_alloc_new w _
theorem heap_kept {o : Obj} (h : w.heap[b]? = some o) (hg : w.grownBy w' (some g)) (hne : b ≠ g) : w'.heap[b]? = some o := by
 have hlt : b < w.heap.size := by
  rcases Nat.lt_or_ge b w.heap.size with h' | h'
  ·
   exact h'
  ·
   simp [Array.getElem?_eq_none h'] at h
 rw [hg.block b hlt (fun e => hne (by injection e))];exact h
theorem heap_old {o : Obj} (h : w.heap[b]? = some o) (hb : Below w.heap.size w w') : w'.heap[b]? = some o := by
 have hlt : b < w.heap.size := by
  rcases Nat.lt_or_ge b w.heap.size with h' | h'
  ·
   exact h'
  ·
   simp [Array.getElem?_eq_none h'] at h
 rw [hb.block b hlt];exact h
def RetAl (R W : World) (g : Nat) (A : OA) (n c k : Nat) (l : List Int) (L : List Int) (e : Ending) (w' : World) : Prop := ∃ r : Int, r ∈ L /\ e = .returned (.int .i64 r) /\ Cx R w' g A n c k l /\ W.grownBy w' (some g)
theorem among_lit (h : Cx R W g A n c k l) (hk : k <= 1099511627000) (L : List Int) (m : Nat) (b : Nat) (hb : b = W.heap.size) (hm : m = L.length) (hm1 : 1 <= m) (hm2 : m <= 1000) (cs : Array Value) (hcs : cs.toList = L.map (Value.int .i64)) (d : Nat) :
  Calls Tryz.prog 73 #[.pointer (some ⟨g, 0, none⟩), .slice (some ⟨b, 0, none⟩) m d] (W.alloc (.cells cs 3)) (RetAl R W g A n c (k + 2) l L) := by
 subst hb hm;have h0 := h.below (bAlloc (Below.refl _ W) (.cells cs 3));refine (among_cx h0 L.length d L hk (int_lit L (by simp only [maxLen]; omega) cs hcs) h.cur.lt hm1 Om).mono ?_;rintro e w' ⟨r, hr, he, hC, hg⟩;exact ⟨r, hr, he, h0.grow hC hg, (World.grownBy_alloc W _ _).trans hg⟩
theorem Cx.pick (h : Cx R w g A n c k l) {lo hi : Int} {e : Ending} (hr : RetNx w g A n c k' lo hi e w') : ∃ r : Int, (lo <= r /\ r <= hi) /\ e = .returned (.int .i64 r) /\ Cx R w' g A n c k' l /\ w.grownBy w' (some g) := by
 obtain ⟨r, h1, h2, h3, h4⟩ := hr; exact ⟨r, h1, h2, h.grow h3 h4, h4⟩
theorem grow_set (h : w.grownBy w' (some g)) (hb : w.heap.size <= b) (j : Nat) (v : Value) : w.grownBy (w'.setCell ⟨b, j, none⟩ v) (some g) :=
 grown_new (D := some ⟨b, 0, none⟩) h (cur_grown w' b j v) (fun q hq => (show b = q by simpa [blkOf] using hq) ▸ hb)
theorem Cx.set (h : Cx R w g A n c k l) (hb : R.heap.size <= b) (hne : b ≠ g) (j : Nat) (v : Value) : Cx R (w.setCell ⟨b, j, none⟩ v) g A n c k l :=
 h.row (cur_grown w b j v) (fun e => by injection e with e; exact hne e) (fun q hq => by injection hq with hq; omega)
theorem blk3 {ty : Nat} {x0 x1 x2 : Value} (h : w.heap[g]? = some (.cells #[x0, x1, x2] ty (0, 0))) : (w.cell? ⟨g, 0, none⟩ = some x0 /\ w.cell? ⟨g, 1, none⟩ = some x1 /\ w.cell? ⟨g, 2, none⟩ = some x2) /\ w.frozen? ⟨g, 0, none⟩ = false /\ w.frozen? ⟨g, 1, none⟩ = false /\ w.frozen? ⟨g, 2, none⟩ = false := by
 refine ⟨⟨?_, ?_, ?_⟩, ?_, ?_, ?_⟩ <;> simp [World.cell?, World.frozen?, h]
theorem percentOf_any (h : Cx R w g A n c k l) (hk : k <= 1000000) :
  Calls Tryz.prog 37 #[.pointer (some ⟨g, 0, none⟩)] w (RetAl R w g A n c (k + 2) l [10, 80, 100, 160, 200, 400, 401, 9]) := by
 go_enter Tryz.func37, Tryz.ntmps37;go_wp2_with fail
 refine (among_lit h Om [10, 80, 100, 160, 200, 400, 401, 9] 8 _ rfl rfl Om Om _ rfl 8).mono ?_;rintro e w1 ⟨v1, hv1, rfl, h1, g1⟩;go_wp2;go_ret;exact ⟨v1, hv1, rfl, h1, g1⟩
def RetZ (R w : World) (g : Nat) (A : OA) (n c k : Nat) (l : List Int) (e : Ending) (w' : World) : Prop := ∃ v : Int, e = .returned (.int .i64 v) /\ Cx R w' g A n c k l /\ w.grownBy w' (some g)
theorem number_any (h : Cx R w g A n c k l) (hk : k <= 1000000) :
  Calls Tryz.prog 36 #[.pointer (some ⟨g, 0, none⟩)] w (RetZ R w g A n c (k + 4) l) := by
 go_enter Tryz.func36, Tryz.ntmps36;go_wp2_with fail
 refine (among_lit h Om [0, 1000] 2 _ rfl rfl Om Om _ rfl 2).mono ?_;rintro e w1 ⟨v1, hv1, rfl, h1, g1⟩;go_wp2_with fail
 refine (among_lit h1 Om [1, 7, 500, 999, v1] 5 _ rfl rfl Om Om _ rfl 5).mono ?_;rintro e w2 ⟨v2, hv2, rfl, h2, g2⟩;go_wp2;go_ret;exact ⟨v2, rfl, h2, g1.trans g2⟩
def RetSD (R w : World) (g : Nat) (A : OA) (n c k : Nat) (l : List Int) (e : Ending) (w' : World) : Prop := ∃ a b d : Int, e = .returned (.agg #[.int .i64 a, .int .i64 b, .int .i64 d]) /\ Cx R w' g A n c k l /\ w.grownBy w' (some g)
theorem slips_any (h : Cx R w g A n c k l) (hk : k <= 1000000) :
  Calls Tryz.prog 71 #[.pointer (some ⟨g, 0, none⟩)] w (RetSD R w g A n c (k + 6) l) := by
 have hgl := h.cur.lt;have hR := h.bel.size;have h0 := h.below (bAlloc (Below.refl _ w) (.cells #[.int .i64 0, .int .i64 0, .int .i64 0] 33));have z0 := heap_alloc_new w (.cells #[.int .i64 0, .int .i64 0, .int .i64 0] 33);go_enter Tryz.func71, Tryz.ntmps71;go_wp2_with fail
 refine (among_lit h0 Om [0, 0, 1, 2, 3, 5, 9] 7 _ Sg rfl Om Om _ rfl 7).mono ?_;rintro e w1 ⟨a, ha, rfl, h1, g1⟩;have z1 := heap_kept z0 g1 Om;go_wp2_with fail
 refine (among_lit h1 Om [0, 0, 1, 5, 6, 60] 6 _ rfl rfl Om Om _ rfl 6).mono ?_;rintro e w2 ⟨b, hb, rfl, h2, g2⟩;have z2 := heap_kept z1 g2 Om;go_wp2_with fail
 refine (among_lit h2 Om [0, 0, 50, 100, 500] 5 _ rfl rfl Om Om _ rfl 5).mono ?_;rintro e w3 ⟨d, hd, rfl, h3, g3⟩;have z3 := heap_kept z2 g3 Om;obtain ⟨⟨s0, s1, s2⟩, u0, u1, u2⟩ := blk3 z3;have hG := (World.grownBy_alloc w (.cells #[.int .i64 0, .int .i64 0, .int .i64 0] 33) (some g)).trans (g1.trans (g2.trans g3));clear ha hb hd g1 g2 g3 h0 h1 h2 z0 z1 z2 z3;go_wp2;refine bodyPost_ret (v := .agg #[.int .i64 a, .int .i64 b, .int .i64 d]) (by simp [results, Tryz.results71, go_sem, s0, s1, s2]) rfl ?_;exact ⟨a, b, d, rfl, ((h3.set Om Om 0 _).set Om Om 1 _).set Om Om 2 _, grow_set (grow_set (grow_set hG (Nat.le_refl _) 0 _) (Nat.le_refl _) 1 _) (Nat.le_refl _) 2 _⟩
theorem anySlips_any (h : Cx R w g A n c k l) (hk : k <= 1000000) :
  Calls Tryz.prog 72 #[.pointer (some ⟨g, 0, none⟩)] w (RetSD R w g A n c (k + 10) l) := by
 have hgl := h.cur.lt;have hR := h.bel.size;have h0 := h.below (bAlloc (Below.refl _ w) (.cells #[.int .i64 0, .int .i64 0, .int .i64 0] 33));have z0 := heap_alloc_new w (.cells #[.int .i64 0, .int .i64 0, .int .i64 0] 33);have g0 := World.grownBy_alloc w (.cells #[.int .i64 0, .int .i64 0, .int .i64 0] 33) (some g);go_enter Tryz.func72, Tryz.ntmps72;go_wp2_with fail
 refine (slips_any h0 Om).mono ?_;rintro e w1 ⟨a, b, d, rfl, h1, g1⟩;have z1 := heap_kept z0 g1 Om;have hs1 := g1.size;have hsw : (w.alloc (.cells #[.int .i64 0, .int .i64 0, .int .i64 0] 33)).heap.size = w.heap.size + 1 := by simp [go_sem]
 have g01 := g0.trans g1;have h2 := h1.below (bAlloc (Below.refl _ w1) (.cells #[.int .i64 a, .int .i64 b, .int .i64 d] 33));have z2 := heap_old z1 (bAlloc (Below.refl _ w1) (.cells #[.int .i64 a, .int .i64 b, .int .i64 d] 33));have y2 := heap_alloc_new w1 (.cells #[.int .i64 a, .int .i64 b, .int .i64 d] 33);have g02 := g01.trans (World.grownBy_alloc w1 (.cells #[.int .i64 a, .int .i64 b, .int .i64 d] 33) (some g));generalize hr2 : w1.heap.size = r2 at *;go_wp2_with fail
 refine (pick_cx h2 24 Om Om Om).mono ?_;intro e w3 hp;obtain ⟨v, hv, rfl, h3, g3⟩ := h2.pick hp;clear hp;have z3 := heap_kept z2 g3 Om;have y3 := heap_kept y2 g3 Om;have g03 := g02.trans g3;clear h0 h1 h2 z0 z1 z2 y2 g0 g1 g01 g02 g3;have hne : ¬ w.heap.size = r2 := Om;have hne2 : ¬ r2 = w.heap.size := Om;by_cases e0 : v = 0
 ·
  subst e0;go_wp2_with fail
  refine (among_lit h3 Om [-1, 9, 10] 3 _ rfl rfl Om Om _ rfl 3).mono ?_;rintro e w4 ⟨u, hu, rfl, h4, g4⟩;have z4 := heap_kept z3 g4 Om;have y4 := heap_kept y3 g4 Om;obtain ⟨⟨s0, s1, s2⟩, u0, u1, u2⟩ := blk3 z4;obtain ⟨⟨t0, t1, t2⟩, v0, v1, v2⟩ := blk3 y4;have g04 := g03.trans g4;clear z3 y3 z4 y4 hu g4 h3 g03;go_wp2;refine bodyPost_ret (v := .agg #[.int .i64 u, .int .i64 b, .int .i64 d]) (by simp [results, Tryz.results72, go_sem, s0, s1, s2, hne, hne2]) rfl ?_;exact ⟨_, _, _, rfl, ((((h4.mono Om).set Om Om 0 _).set Om Om 0 _).set Om Om 1 _).set Om Om 2 _, grow_set (grow_set (grow_set (grow_set g04 Om 0 _) (Nat.le_refl _) 0 _) (Nat.le_refl _) 1 _) (Nat.le_refl _) 2 _⟩
 by_cases e1 : v = 1
 ·
  subst e1;go_wp2_with fail
  refine (among_lit h3 Om [-1, 60, 61] 3 _ rfl rfl Om Om _ rfl 3).mono ?_;rintro e w4 ⟨u, hu, rfl, h4, g4⟩;have z4 := heap_kept z3 g4 Om;have y4 := heap_kept y3 g4 Om;obtain ⟨⟨s0, s1, s2⟩, u0, u1, u2⟩ := blk3 z4;obtain ⟨⟨t0, t1, t2⟩, v0, v1, v2⟩ := blk3 y4;have g04 := g03.trans g4;clear z3 y3 z4 y4 hu g4 h3 g03;go_wp2;refine bodyPost_ret (v := .agg #[.int .i64 a, .int .i64 u, .int .i64 d]) (by simp [results, Tryz.results72, go_sem, s0, s1, s2, hne, hne2]) rfl ?_;exact ⟨_, _, _, rfl, ((((h4.mono Om).set Om Om 1 _).set Om Om 0 _).set Om Om 1 _).set Om Om 2 _, grow_set (grow_set (grow_set (grow_set g04 Om 1 _) (Nat.le_refl _) 0 _) (Nat.le_refl _) 1 _) (Nat.le_refl _) 2 _⟩
 by_cases e2 : v = 2
 ·
  subst e2;go_wp2_with fail
  refine (among_lit h3 Om [-1, 500, 501] 3 _ rfl rfl Om Om _ rfl 3).mono ?_;rintro e w4 ⟨u, hu, rfl, h4, g4⟩;have z4 := heap_kept z3 g4 Om;have y4 := heap_kept y3 g4 Om;obtain ⟨⟨s0, s1, s2⟩, u0, u1, u2⟩ := blk3 z4;obtain ⟨⟨t0, t1, t2⟩, v0, v1, v2⟩ := blk3 y4;have g04 := g03.trans g4;clear z3 y3 z4 y4 hu g4 h3 g03;go_wp2;refine bodyPost_ret (v := .agg #[.int .i64 a, .int .i64 b, .int .i64 u]) (by simp [results, Tryz.results72, go_sem, s0, s1, s2, hne, hne2]) rfl ?_;exact ⟨_, _, _, rfl, ((((h4.mono Om).set Om Om 2 _).set Om Om 0 _).set Om Om 1 _).set Om Om 2 _, grow_set (grow_set (grow_set (grow_set g04 Om 2 _) (Nat.le_refl _) 0 _) (Nat.le_refl _) 1 _) (Nat.le_refl _) 2 _⟩
 ·
  obtain ⟨⟨s0, s1, s2⟩, u0, u1, u2⟩ := blk3 z3;obtain ⟨⟨t0, t1, t2⟩, v0, v1, v2⟩ := blk3 y3;clear z3 y3;go_wp2;refine bodyPost_ret (v := .agg #[.int .i64 a, .int .i64 b, .int .i64 d]) (by simp [results, Tryz.results72, go_sem, s0, s1, s2, hne, hne2]) rfl ?_;exact ⟨_, _, _, rfl, (((h3.mono Om).set Om Om 0 _).set Om Om 1 _).set Om Om 2 _, grow_set (grow_set (grow_set g03 (Nat.le_refl _) 0 _) (Nat.le_refl _) 1 _) (Nat.le_refl _) 2 _⟩
theorem row_info : (Tryz.prog.info? 25).map (fun i => (i.zero, i.size, i.bytes)) = some (some (.slice none 0 0), 1, 24) := by kernel_rfl
section
variable {ops : Array Oper} {rest : List Oper} {o : Oper} {a : Act} {Q : Exit -> Act -> World -> Prop}
theorem wpl_push_row (R W : World) (B0 : OA) (m0 d0 : Nat) (gx : Nat) (hgx : gx = W.heap.size) (hgd : o.guard = none) (s x : Operand) (ho : o.op = .call { callee := .builtin .append, args := #[s, x], argTypes := #[29, 29] })
  (A : OA) (n c : Nat) (xs : List Value) (hs : a.eval s = .slice A n c) (hbase : R.heap.size <= base) (hbW : base <= W.heap.size) {W₀ : World} (hown₀ : Ow 25 1 base W₀ A n c xs) (hW₀ : Below W₀.heap.size W₀ W) (hR : Below R.heap.size R W)
  (hx : a.eval x = .slice (some ⟨gx, 0, none⟩) 1 1) (hn : n <= 1099511627776)
  (h : ∀ A' c' y, Ow 25 1 base (ext R y) A' (n + 1) c' (xs ++ [.slice B0 m0 d0]) -> W.grownBy (ext R y) (blkOf A) -> (blkOf A' = blkOf A ∨ ∃ g, blkOf A' = some g /\ W.heap.size < g) -> wpList Tryz.prog ops Q rest (a.put o.dst (.slice A' (n + 1) c')) (ext R y)) :
  wpList Tryz.prog ops Q (o :: rest) a (W.alloc (.cells #[.slice B0 m0 d0] 25)) := by
 subst hgx;have hown := hown₀.below hW₀;obtain ⟨i0, hi0, hz0, hz1, hz2⟩ := info_parts row_info;have hRw : Below R.heap.size R (W.alloc (.cells #[.slice B0 m0 d0] 25)) := bAlloc hR _;have hown1 := hown.below (bAlloc (Below.refl W.heap.size W) (.cells #[.slice B0 m0 d0] 25));refine wpList_append_own_at _ hgd s x _ ho base 25 i0 (.slice none 0 0) 1 24 Tryz.underlying29 hi0 hz0 hz1 hz2 rfl Om (.slice A n c) n xs hs hown1
  ⟨W.heap.size, 0, none⟩ 1 1 [.slice B0 m0 d0] hx rfl ?_ (by simp [Value.oneCell']) (by simp only [maxLen]; omega) Om (by simp; omega) ?_
 ·
  intro j u hu
  match j with
  | 0 => simp at hu; subst hu; simp [Addr.add, go_sem]
  | j + 1 => simp at hu
 ·
  intro v' w' hown' hg _ hd;rw [ownBlock_slice] at hg hd;have hBw : Below R.heap.size R w' := below_grown hRw hg (fun k hk => Nat.le_trans hbase (hown1.blk hk).1);obtain ⟨y, rfl⟩ := ext_ex hBw
  rcases hown'.2 with ⟨_, h0⟩ | ⟨g', cap, cur, rfl, hrest⟩
  ·
   omega
  ·
   rw [ownBlock_slice] at hd;refine h _ _ y hown' ((World.grownBy_alloc W _ _).trans hg) ?_
   rcases hd with hd | hd
   ·
    exact .inl hd
   ·
    exact .inr ⟨_, hd, by simp⟩
end
theorem step_app_row {ops : Array Oper} {o : Oper} {a : Act} {K : Act -> World -> Prop} {Q : Exit -> Act -> World -> Prop} {E : Prop} (R : World) (hgd : o.guard = none) (s x : Operand) (ho : o.op = .call { callee := .builtin .append, args := #[s, x], argTypes := #[29, 29] })
  (A : OA) (n c : Nat) (xs : List Value) (hs : a.eval s = .slice A n c) (hbase : R.heap.size <= base) (hbW : base <= W.heap.size) {W₀ : World} (hown₀ : Ow 25 1 base W₀ A n c xs) (hW₀ : Below W₀.heap.size W₀ W) (hR : Below R.heap.size R W)
  (b d : Nat) (B0 : OA) (m0 d0 : Nat) (hx : a.eval x = .slice (some ⟨b, 0, none⟩) 1 d) (hb : b < W.heap.size) (hc : W.cell? ⟨b, 0, none⟩ = some (.slice B0 m0 d0)) (hn : n <= 1099511627776)
  (h : ∀ A' c' y, Ow 25 1 base (ext R y) A' (n + 1) c' (xs ++ [.slice B0 m0 d0]) -> W.grownBy (ext R y) (blkOf A) -> (blkOf A' = blkOf A ∨ blkOf A' = some W.heap.size) -> K (a.put o.dst (.slice A' (n + 1) c')) (ext R y)) :
  if Region.wanted o (yielded ops a.tmps) = true then Oper.wp Tryz.prog o a W K Q else E := by
 have hw : Region.wanted o (yielded ops a.tmps) = true := by simp [Region.wanted, hgd]
 rw [if_pos hw];have hown := hown₀.below hW₀;have hr : Rd 1 W (some ⟨b, 0, none⟩) 1 [.slice B0 m0 d0] := ⟨by simp, fun _ => ⟨b, 0, rfl, hb, fun j u hu => by
  match j with
  | 0 => simp at hu; subst hu; exact hc
  | j + 1 => simp at hu⟩⟩
 obtain ⟨i0, hi0, hz0, hz1, hz2⟩ := info_parts row_info;obtain ⟨v', w', hrun, h2, h3, h4⟩ := run_append_rd (P := Tryz.prog) W base 29 o.type 25 i0 (.slice none 0 0) 1 24 Tryz.underlying29 hi0 hz0 hz1 hz2 rfl Om (.slice A n c) n xs hown (some ⟨b, 0, none⟩) 1 d [.slice B0 m0 d0] hr
  (by intro u hu; simp at hu; subst hu; rfl) (by simp only [maxLen]; omega) Om hbW
 unfold Oper.wp execOp;simp only [ho, resolve, invoke, builtin, Sem.run_bind, Sem.run_pure, Result.andThen_ok, List.map_toArray, List.map_cons, List.map_nil, hs, hx, hrun];rw [ownBlock_slice] at h3 h4;have hBw : Below R.heap.size R w' := below_grown hR h3 (fun k hk => Nat.le_trans hbase (hown.blk hk).1);obtain ⟨y, rfl⟩ := ext_ex hBw
 rcases h2.2 with ⟨hv, h0⟩ | ⟨g', cap, cur, hv, hrest⟩
 ·
  omega
 ·
  subst hv;rw [ownBlock_slice] at h4;exact h _ _ y h2 h3 h4
theorem Ow.rebase {e s base' : Nat} {xs : List Value} (h : Ow e s base w A n c xs) (hn : ∀ z, blkOf A = some z -> base' <= z) : Ow e s base' w A n c xs := by
 refine ⟨h.1, ?_⟩
 rcases h.2 with h2 | ⟨g, cap, cur, hv, hg, r⟩
 ·
  exact .inl h2
 ·
  have hv' := hv;simp at hv';exact .inr ⟨g, cap, cur, hv, hn g (by rw [hv'.1]; rfl), r⟩
theorem OwI.rebase {base' : Nat} (h : OwI base w A n c l) (hn : ∀ z, blkOf A = some z -> base' <= z) : OwI base' w A n c l := Ow.rebase h hn
theorem OwMB.nil_ : OwMB base hi w none 0 0 [] :=
 ⟨rfl, fun _ => none, fun _ => 0, fun _ => 0, ⟨Ow.nil_, fun j hj => absurd hj Om, fun i j hi => absurd hi Om⟩, (fun z hz => by cases hz), fun j hj => absurd hj Om⟩
theorem OwMB.push {lo : Nat} (h : OwMB base lo W A n c ll) (hlo : lo <= W.heap.size) (hbl : base <= lo) (hr : OwI lo W B0 m0 d0 l) :
  ∃ xs, Ow 25 1 base W A n c xs /\ ∀ (W' : World) (A' : OA) (c' : Nat), Ow 25 1 base W' A' (n + 1) c' (xs ++ [.slice B0 m0 d0]) -> W.grownBy W' (blkOf A) -> (blkOf A' = blkOf A ∨ ∃ g, blkOf A' = some g /\ W.heap.size < g) -> OwMB base W'.heap.size W' A' (n + 1) c' (ll ++ [l]) := by
 obtain ⟨g1, B, m, d, ⟨g2, g3, g4⟩, g5, g6⟩ := h;refine ⟨_, g2, fun W' A' c' ho hg hd => ?_⟩;have hrow : ∀ j, j < n -> ∀ z, blkOf (B j) = some z -> z < lo := g6;have hB0 : ∀ z, blkOf B0 = some z -> lo <= z /\ z < W.heap.size := fun z hz => hr.blk hz
 have hB0A : blkOf B0 = none ∨ blkOf B0 ≠ blkOf A := by
  cases hz : blkOf B0 with
  | none => exact .inl rfl
  | some z => exact .inr fun e => by have := (hB0 z hz).1; have := g5 z e.symm; omega
 refine ⟨by simp [g1], fun j => if j = n then B0 else B j, fun j => if j = n then m0 else m j, fun j => if j = n then d0 else d j, ⟨?_, fun j hj => ?_, fun i j hi hj hij => ?_⟩, fun z hz => (ho.blk hz).2, fun j hj z hz => ?_⟩
 ·
  refine cast (congrArg (Ow _ _ _ _ _ _ _) ?_) ho;rw [List.range_succ, List.map_append]
  congr 1
  ·
   refine List.map_congr_left fun j hj => ?_
   have : j ≠ n := by simp at hj; omega
   simp [this]
  ·
   simp
 ·
  by_cases e : j = n
  ·
   subst e;simp only [if_true];have hl : (ll ++ [l])[j]?.getD [] = l := by rw [<- g1]; simp
   rw [hl];refine ⟨(hr.mono hbl).kept hg hB0A, ?_⟩
   cases hz : blkOf B0 with
   | none => exact .inl rfl
   | some z =>
    refine .inr fun e => ?_
    rcases hd with hd | ⟨g, hd, hlt⟩
    ·
     rw [hd] at e; rw [hz] at hB0A; rcases hB0A with h | h
     ·
      cases h
     ·
      exact h e
    ·
     rw [hd] at e; injection e with e; have := (hB0 z hz).2; omega
  ·
   simp only [if_neg e];have hl : (ll ++ [l])[j]?.getD [] = ll[j]?.getD [] := by rw [List.getElem?_append_left Om]
   rw [hl];refine ⟨(g3 j Om).1.kept hg (g3 j Om).2, ?_⟩
   cases hz : blkOf (B j) with
   | none => exact .inl rfl
   | some z =>
    refine .inr fun e' => ?_
    rcases hd with hd | ⟨g, hd, hlt⟩
    ·
     rw [hd] at e';have := (g3 j Om).2;rw [hz] at this
     rcases this with h | h
     ·
      cases h
     ·
      exact h e'
    ·
     rw [hd] at e'; injection e' with e'; have := hrow j Om z hz; omega
 ·
  by_cases e1 : i = n
  ·
   have e2 : j ≠ n := fun h => hij (e1.trans h.symm)
   simp only [if_pos e1, if_neg e2]
   cases hz : blkOf B0 with
   | none => exact .inl rfl
   | some z => exact .inr fun e => by have := (hB0 z hz).1; have := hrow j Om z e.symm; omega
  ·
   by_cases e2 : j = n
   ·
    simp only [if_neg e1, if_pos e2]
    cases hz : blkOf (B i) with
    | none => exact .inl rfl
    | some z => exact .inr fun e => by have := (hB0 z e.symm).1; have := hrow i Om z hz; omega
   ·
    simp only [if_neg e1, if_neg e2]; exact g4 i j Om Om hij
 ·
  simp only at hz;have hsz := hg.size;by_cases e : j = n
  ·
   rw [if_pos e] at hz; have := (hB0 z hz).2; omega
  ·
   rw [if_neg e] at hz; have := hrow j Om z hz; omega
def Tr (S : Nat -> Prop) (w : World) (A : OA) (n c : Nat) (ll : List (List Int)) : Prop :=
 ll.length = n /\ n <= c /\ c <= maxLen /\ (0 < n -> ∃ b off, A = some ⟨b, off, none⟩ /\ b < w.heap.size /\ S b /\ ∀ j, j < n -> ∃ B m d, w.cell? ⟨b, off + j, none⟩ = some (.slice B m d) /\ RdI w B m (ll[j]?.getD []) /\ m <= d /\ d <= maxLen /\ ∀ z, blkOf B = some z -> S z /\ z ≠ b)
theorem Tr.nil_ {S : Nat -> Prop} : Tr S w none 0 0 [] := ⟨rfl, Nat.le_refl _, by simp [maxLen], fun h => absurd h Om⟩
section
variable {S : Nat -> Prop} {w w' : World} {A : OA} {n c : Nat} {ll : List (List Int)}
theorem RdI.keptR {B : OA} {row : Option Nat} (h : RdI w B m l) (hg : w.grownBy w' row) (hne : ∀ z, blkOf B = some z -> some z ≠ row) : RdI w' B m l := by
 refine ⟨h.1, fun hm => ?_⟩;obtain ⟨b, off, rfl, hlt, hc⟩ := h.2 hm;exact ⟨b, off, rfl, Nat.lt_of_lt_of_le hlt hg.size, fun j u hu => (World.cell?_of_block (hg.block b hlt (hne b rfl))).trans (hc j u hu)⟩
theorem Tr.kept {row : Option Nat} (h : Tr S w A n c ll) (hg : w.grownBy w' row) (hS : ∀ z, S z -> some z ≠ row) : Tr S w' A n c ll := by
 obtain ⟨h1, h3, h4, h2⟩ := h;refine ⟨h1, h3, h4, fun hn => ?_⟩;obtain ⟨b, off, rfl, hlt, hs, hc⟩ := h2 hn;refine ⟨b, off, rfl, Nat.lt_of_lt_of_le hlt hg.size, hs, fun j hj => ?_⟩;obtain ⟨B, m, d, q1, q2, q3, q4, q5⟩ := hc j hj;exact ⟨B, m, d, (World.cell?_of_block (hg.block b hlt (hS b hs))).trans q1, q2.keptR hg (fun z hz => hS z (q5 z hz).1), q3, q4, q5⟩
theorem Tr.below (h : Tr S w A n c ll) (hb : Below w.heap.size w w') : Tr S w' A n c ll := h.kept (row := none) (grownBy_of_below hb) (fun z _ e => by cases e)
theorem Tr.set {v : Value} (h : Tr S w A n c ll) (hS : ¬ S g) : Tr S (w.setCell ⟨g, k, none⟩ v) A n c ll := h.kept (gSetM w g k v) (fun z hz e => by injection e with e; subst e; exact hS hz)
theorem Tr.imp {S' : Nat -> Prop} (h : Tr S w A n c ll) (hS : ∀ z, S z -> S' z) : Tr S' w A n c ll := by
 obtain ⟨h1, h3, h4, h2⟩ := h;refine ⟨h1, h3, h4, fun hn => ?_⟩;obtain ⟨b, off, rfl, hlt, hs, hc⟩ := h2 hn;refine ⟨b, off, rfl, hlt, hS _ hs, fun j hj => ?_⟩;obtain ⟨B, m, d, q1, q2, q3, q4, q5⟩ := hc j hj;exact ⟨B, m, d, q1, q2, q3, q4, fun z hz => ⟨hS z (q5 z hz).1, (q5 z hz).2⟩⟩
theorem Tr.put {off : Nat} (h : Tr S w (some ⟨b, off, none⟩) n c ll) (hk : k < n) (hr : RdI w B0 m0 l) (hmd : m0 <= d0) (hd : d0 <= maxLen) (hB : ∀ z, blkOf B0 = some z -> S z /\ z ≠ b) :
  Tr S (w.setCell ⟨b, off + k, none⟩ (.slice B0 m0 d0)) (some ⟨b, off, none⟩) n c (ll.set k l) := by
 obtain ⟨h1, h3, h4, h2⟩ := h;refine ⟨by simpa using h1, h3, h4, fun hn => ?_⟩;obtain ⟨b', off', e, hlt, hs, hc⟩ := h2 hn;injection e with e;injection e with e1 e2;subst e1 e2;have hg := gSetM w b (off + k) (.slice B0 m0 d0);have hsz : b < (w.setCell ⟨b, off + k, none⟩ (.slice B0 m0 d0)).heap.size := Nat.lt_of_lt_of_le hlt hg.size;refine ⟨b, off, rfl, hsz, hs, fun j hj => ?_⟩;by_cases ej : j = k
 ·
  subst ej;have hl : (ll.set j l)[j]?.getD [] = l := by simp [h1, hj]
  rw [hl];obtain ⟨B, m, d, q1, _⟩ := hc j hj;refine ⟨B0, m0, d0, ?_, hr.keptR hg (fun z hz e => by injection e with e; exact (hB z hz).2 e), hmd, hd, hB⟩;exact World.cell?_setCell_same _ _ _ q1
 ·
  obtain ⟨B, m, d, q1, q2, q3, q4, q5⟩ := hc j hj;have hl : (ll.set k l)[j]?.getD [] = ll[j]?.getD [] := by rw [List.getElem?_set_ne (fun h => ej h.symm)]
  rw [hl];refine ⟨B, m, d, ?_, q2.keptR hg (fun z hz e => by injection e with e; exact (q5 z hz).2 e), q3, q4, q5⟩;rw [<- q1];exact World.cell?_setCell_other _ _ _ _ (fun e => by injection e with _ e; omega)
end
theorem OwMB.tr {S : Nat -> Prop} (h : OwMB base hi w A n c ll) (hS : ∀ z, base <= z -> z < hi -> S z) : Tr S w A n c ll := by
 obtain ⟨g1, B, m, d, ⟨g2, g3, g4⟩, g5, g6⟩ := h;refine ⟨g1, g2.cap_.1, g2.cap_.2, fun hn => ?_⟩;obtain ⟨g, rfl, hb, hlt⟩ := g2.form_ hn;refine ⟨g, 0, rfl, hlt, hS g hb (g5 g rfl), fun j hj => ⟨B j, m j, d j, ?_, (g3 j hj).1.rd, (g3 j hj).1.cap_.1, (g3 j hj).1.cap_.2, fun z hz => ?_⟩⟩
 ·
  rw [Nat.zero_add, Ow.cell_ g2 j Om]; simp [hj]
 ·
  refine ⟨hS z ((g3 j hj).1.blk hz).1 (g6 j hj z hz), fun e => ?_⟩;have := (g3 j hj).2;rw [hz, e] at this
  rcases this with h | h
  ·
   cases h
  ·
   exact h rfl
theorem OwMB.grow_row {S : Nat -> Prop} {b' m1 d1 : Nat} {B1 : OA} {l' : List Int} (h : OwMB base hi w (some ⟨g, 0, none⟩) n c ll) (hk : k < n) (hcell : w.cell? ⟨g, k, none⟩ = some (.slice B0 m0 d0)) (hg : w.grownBy w' (blkOf B0)) (hr : OwI b' w' B1 m1 d1 l') (hd : blkOf B1 = blkOf B0 ∨ ∃ z, blkOf B1 = some z /\ w.heap.size <= z)
  (hS : ∀ z, base <= z -> z < hi -> S z) (hS2 : ∀ z, w.heap.size <= z -> S z) : Tr S (w'.setCell ⟨g, k, none⟩ (.slice B1 m1 d1)) (some ⟨g, 0, none⟩) n c (ll.set k l') := by
 obtain ⟨g1, B, m, d, ⟨g2, g3, g4⟩, g5, g6⟩ := h;have hgl := (g2.blk (g := g) rfl);have hck : w.cell? ⟨g, k, none⟩ = some (.slice (B k) (m k) (d k)) := by rw [Ow.cell_ g2 k Om]; simp [hk]
 rw [hcell] at hck;injection hck with hck;injection hck with e1 e2 e3;subst e1 e2 e3;have h3 := g2.kept hg (by
  rcases (g3 k hk).2 with h | h
  ·
   rw [h]; cases blkOf (some (⟨g, 0, none⟩ : Addr)) <;> simp
  ·
   exact .inr fun e => h e.symm)
 have hset := gSetM w' g k (.slice B1 m1 d1);have hS1 : ∀ z, blkOf B1 = some z -> S z /\ z ≠ g := fun z hz => by
  rcases hd with hd | ⟨y, hd, hy⟩
  ·
   rw [hd] at hz;refine ⟨hS z ((g3 k hk).1.blk hz).1 (g6 k hk z hz), fun e => ?_⟩;have := (g3 k hk).2;rw [hz, e] at this
   rcases this with h | h
   ·
    cases h
   ·
    exact h rfl
  ·
   rw [hd] at hz; injection hz with hz; subst hz;exact ⟨hS2 y hy, Om⟩
 refine ⟨by simpa using g1, g2.cap_.1, g2.cap_.2, fun hn => ⟨g, 0, rfl, ?_, hS g hgl.1 (g5 g rfl), fun j hj => ?_⟩⟩
 ·
  exact Nat.lt_of_lt_of_le hgl.2 (Nat.le_trans hg.size hset.size)
 ·
  rw [Nat.zero_add];have hcj : w'.cell? ⟨g, j, none⟩ = some (.slice (B j) (m j) (d j)) := by rw [Ow.cell_ h3 j Om]; simp [hj]
  by_cases ej : j = k
  ·
   subst ej;have hl : (ll.set j l')[j]?.getD [] = l' := by simp [g1, hj]
   rw [hl];exact ⟨B1, m1, d1, World.cell?_setCell_same _ _ _ hcj, hr.rd.keptR hset (fun z hz e => by injection e with e; exact (hS1 z hz).2 e), hr.cap_.1, hr.cap_.2, hS1⟩
  ·
   have hl : (ll.set k l')[j]?.getD [] = ll[j]?.getD [] := by rw [List.getElem?_set_ne (fun h => ej h.symm)]
   rw [hl];have hne : ∀ z, blkOf (B j) = some z -> z ≠ g := fun z hz e => by
    have := (g3 j hj).2;rw [hz, e] at this
    rcases this with h | h
    ·
     cases h
    ·
     exact h rfl
   refine ⟨B j, m j, d j, ?_, ?_, (g3 j hj).1.cap_.1, (g3 j hj).1.cap_.2, fun z hz => ⟨hS z ((g3 j hj).1.blk hz).1 (g6 j hj z hz), hne z hz⟩⟩
   ·
    rw [<- hcj];exact World.cell?_setCell_other _ _ _ _ (fun e => by injection e with _ e; omega)
   ·
    refine (((g3 j hj).1.kept hg (g4 j k hj hk ej)).rd).keptR hset (fun z hz e => by injection e with e; exact hne z hz e)
theorem OwMB.push_own {S : Nat -> Prop} (h : OwMB base hi w A n c ll) (hn : 0 < n) (hS : ∀ z, base <= z -> z < hi -> S z) (hS2 : ∀ z, w.heap.size <= z -> S z) :
  ∃ g xs B0 m0 d0, A = some ⟨g, 0, none⟩ /\ g < w.heap.size /\ w.cell? ⟨g, 0, none⟩ = some (.slice B0 m0 d0) /\ w.frozen? ⟨g, 0, none⟩ = false /\ Ow 25 1 base w A n c xs /\
   ∀ (w' : World) (A' : OA) (c' : Nat), Ow 25 1 base w' A' (n + 1) c' (xs ++ [.slice B0 m0 d0]) -> w.grownBy w' (blkOf A) -> (blkOf A' = blkOf A ∨ ∃ z, blkOf A' = some z /\ w.heap.size <= z) -> Tr S w' A' (n + 1) c' (ll ++ [ll[0]?.getD []]) := by
 obtain ⟨g1, B, m, d, ⟨g2, g3, g4⟩, g5, g6⟩ := h;obtain ⟨g, rfl, hb, hlt⟩ := g2.form_ hn;have hc0 : w.cell? ⟨g, 0, none⟩ = some (.slice (B 0) (m 0) (d 0)) := by rw [Ow.cell_ g2 0 Om]; simp [hn]
 refine ⟨g, _, B 0, m 0, d 0, rfl, hlt, hc0, Ow.frozen_ g2 0, g2, fun w' A' c' ho hg hd => ?_⟩;obtain ⟨g', rfl, hb', hlt'⟩ := ho.form_ Om;have hA' : S g' := by
  rcases hd with hd | ⟨z, hd, hz⟩
  ·
   have e : g' = g := by simpa [blkOf] using hd
   subst e; exact hS g' hb (g5 g' rfl)
  ·
   have e : g' = z := by simpa [blkOf] using hd
   subst e; exact hS2 g' hz
 have hrow : ∀ j, j < n -> RdI w' (B j) (m j) (ll[j]?.getD []) /\ m j <= d j /\ d j <= maxLen /\ ∀ z, blkOf (B j) = some z -> S z /\ z ≠ g' := fun j hj => by
  refine ⟨((g3 j hj).1.kept hg (g3 j hj).2).rd, (g3 j hj).1.cap_.1, (g3 j hj).1.cap_.2, fun z hz => ⟨hS z ((g3 j hj).1.blk hz).1 (g6 j hj z hz), fun e => ?_⟩⟩;have hzl := ((g3 j hj).1.blk hz).2
  rcases hd with hd | ⟨y, hd, hy⟩
  ·
   have e' : g' = g := by simpa [blkOf] using hd
   have := (g3 j hj).2;rw [hz, e, e'] at this
   rcases this with h | h
   ·
    cases h
   ·
    exact h rfl
  ·
   have e' : g' = y := by simpa [blkOf] using hd
   omega
 refine ⟨by simp [g1], ho.cap_.1, ho.cap_.2, fun _ => ⟨g', 0, rfl, hlt', hA', fun j hj => ?_⟩⟩;rw [Nat.zero_add];have hcj := Ow.cell_ ho j Om;by_cases e : j = n
 ·
  subst e;have hl : (ll ++ [ll[0]?.getD []])[j]?.getD [] = ll[0]?.getD [] := by rw [<- g1]; simp
  rw [hl];refine ⟨B 0, m 0, d 0, ?_, hrow 0 hn⟩;rw [hcj, List.getElem?_append_right (by simp)]
  simp
 ·
  have hl : (ll ++ [ll[0]?.getD []])[j]?.getD [] = ll[j]?.getD [] := by rw [List.getElem?_append_left Om]
  rw [hl];refine ⟨B j, m j, d j, ?_, hrow j Om⟩;rw [hcj, List.getElem?_append_left (by simp; omega)];simp [show j < n by omega]
theorem RdI.drop1 (h : RdI w (some ⟨b, 0, none⟩) m l) (hm : 1 <= m) : RdI w (some ⟨b, 1, none⟩) (m - 1) (l.drop 1) := by
 have hl := h.len;refine ⟨by simp; omega, fun _ => ?_⟩;obtain ⟨b', off, e, hlt, hc⟩ := h.2 Om;injection e with e;injection e with e1 e2;subst e1 e2;refine ⟨b, 1, rfl, hlt, fun j u hu => ?_⟩;have := hc (j + 1) u (by simpa [List.map_drop] using hu);rw [Nat.zero_add] at this;rw [Nat.add_comm 1 j];exact this
theorem wfY {x : Int} (h : (Lit.int .u8 x).wf = true) : 0 <= x /\ x <= 255 := by
 have e1 : IntKind.u8.min = 0 := by decide
 have e2 : IntKind.u8.max = 255 := by decide
 unfold Lit.wf at h;simp [e1, e2] at h;omega
theorem open_RdY {H : Type} {enc : TypeId × Value -> H} {r : Reach} {v : Value} {d : DataW H} {p : List MemPlace}
  (hv : Value.okWide Tryz.prog W r base 22 v) (h : DataW.Trod enc Tryz.prog W 0 (fun _ => true) true 22 v d p) :
  ∃ A n c l, v = .slice A n c /\ RdY W A n l /\ n <= c /\ c <= maxLen := by
 obtain ⟨a0, len, cap, rfl⟩ := okWide_slice Tryz.underlying22 hv;obtain ⟨fuel, hf⟩ := h
 rcases open_ints Tryz.underlying22 Tryz.underlying5 (by kernel_rfl) hf with ⟨hcs, _⟩ | ⟨x, l, c, zs, hcs, _, hl, hm, hz, _, hcell, hwz⟩
 ·
  simp [Value.cells] at hcs;obtain ⟨rfl, rfl, rfl⟩ := hcs;exact ⟨none, 0, 0, [], rfl, ⟨⟨by simp, Om⟩, by simp⟩, Nat.le_refl _, by simp [maxLen]⟩
 ·
  simp [Value.cells] at hcs;obtain ⟨rfl, rfl, rfl⟩ := hcs;refine ⟨some x, len, cap, zs.take len, rfl, ⟨⟨?_, fun hn => ?_⟩, fun y hy => wfY (hwz y (List.mem_of_mem_take hy))⟩, hl, hm⟩
  ·
   simp; simp at hz; omega
  ·
   obtain ⟨b, off, spot⟩ := x;have hzl : zs.length = cap := by simpa using hz
   have hc := hcell 0 Om;have hspot : spot = none := by simpa [Addr.add] using World.cell?_spot hc
   subst hspot;have hb : b < W.heap.size := World.block_lt_of_cell? W _ (by simpa [Addr.add] using hc);refine ⟨b, off, rfl, hb, fun j u hu => ?_⟩;simp only [List.getElem?_map, Option.map_eq_some_iff] at hu;obtain ⟨y, hy, rfl⟩ := hu;have hj : j < zs.length := by
    have := (List.getElem?_eq_some_iff.1 hy).1;simp at this; omega
   have h2 := hcell j hj;have hadd : (⟨b, off, none⟩ : Addr).add j = ⟨b, off + j, none⟩ := by unfold Addr.add; split <;> simp_all
   rw [hadd] at h2;rw [h2];have : zs.getD j 0 = y := by
    rw [List.getElem?_take] at hy
    split at hy
    ·
     simp [List.getD, hy]
    ·
     cases hy
   rw [this]
end Go.Proofs.YtlfhhkgleapamaaGreatDoor
