/- Forests: many rows of a call's own at once, no two of them in one block; items and tables of rows as forests. Conditions: none. -/
import Derived.Test.YtlfhhkgleapamaaGreatDoorQStrs0
import Derived.Test.YtlfhhkgleapamaaGreatDoorQDraws
import Derived.Test.YtlfhhkgleapamaaGreatDoorQMarks0
import Derived.Test.YtlfhhkgleapamaaGreatDoorQGoods
set_option linter.unusedVariables false
set_option linter.unusedSimpArgs false
set_option maxRecDepth 100000
set_option maxHeartbeats 16000000
namespace Go.Proofs.YtlfhhkgleapamaaGreatDoor
open Go.RowKit Go.ChangeShapes Go.WideShapes Go.ChangeAt
structure Rw where
 e : Nat
 s : Nat
 A : OA
 n : Nat
 c : Nat
 xs : List Value
def Rw.own (r : Rw) (b : Nat) (w : World) : Prop := Ow r.e r.s b w r.A r.n r.c r.xs
def rowN : Rw := ⟨0, 1, none, 0, 0, []⟩
def rowT (A : OA) (n c : Nat) (l : List ByteArray) : Rw := ⟨9, 1, A, n, c, l.map Value.string⟩
def rowI (A : OA) (n c : Nat) (l : List Int) : Rw := ⟨3, 1, A, n, c, l.map (Value.int .i64)⟩
abbrev Fam := Nat × Nat -> Rw
def famN : Fam := fun _ => rowN
def upd (R : Fam) (j : Nat × Nat) (r : Rw) : Fam := fun i => if i = j then r else R i
theorem upd_same (R : Fam) (j : Nat × Nat) (r : Rw) : upd R j r j = r := by simp [upd]
theorem upd_ne (R : Fam) {i j : Nat × Nat} (r : Rw) (h : i ≠ j) : upd R j r i = R i := by simp [upd, h]
def Fo (b hi : Nat) (w : World) (R : Fam) : Prop :=
 (∀ j, (R j).own b w) /\ (∀ i j, i ≠ j -> blkOf (R i).A = none ∨ blkOf (R i).A ≠ blkOf (R j).A) /\ ∀ j z, blkOf (R j).A = some z -> z < hi
theorem Fo.nil_ {b hi : Nat} {w : World} : Fo b hi w famN := ⟨fun _ => Ow.nil_, fun _ _ _ => .inl rfl, fun _ z hz => by cases hz⟩
section
variable {b hi hi' : Nat} {w w' : World} {R : Fam} {j : Nat × Nat} {r : Rw}
theorem Fo.below (h : Fo b hi w R) (hb : Below w.heap.size w w') : Fo b hi w' R := ⟨fun j => (h.1 j).below hb, h.2.1, h.2.2⟩
theorem Fo.mono {b' : Nat} (h : Fo b hi w R) (hb : b' <= b) (hh : hi <= hi') : Fo b' hi' w R := ⟨fun j => (h.1 j).mono hb, h.2.1, fun j z hz => by have := h.2.2 j z hz; omega⟩
theorem Fo.put (h : Fo b hi w R) (hg : w.grownBy w' (blkOf (R j).A)) (ho : r.own b w') (hd : blkOf r.A = blkOf (R j).A ∨ blkOf r.A = none ∨ ∃ g, blkOf r.A = some g /\ hi <= g) (hh : hi <= hi') (hz : ∀ z, blkOf r.A = some z -> z < hi') : Fo b hi' w' (upd R j r) := by
 have hfree : ∀ i, i ≠ j -> blkOf r.A = none ∨ blkOf r.A ≠ blkOf (R i).A := fun i hi => by
  rcases hd with hd | hd | ⟨g, hd, hg⟩
  ·
   rw [hd]; exact h.2.1 j i (fun e => hi e.symm)
  ·
   exact .inl hd
  ·
   refine .inr fun e => ?_
   rw [hd] at e;have := h.2.2 i g e.symm;omega
 refine ⟨fun i => ?_, fun i k hik => ?_, fun i z hi => ?_⟩
 ·
  by_cases e : i = j
  ·
   subst e; rw [upd_same]; exact ho
  ·
   rw [upd_ne R r e]; exact (h.1 i).kept hg (h.2.1 i j e)
 ·
  by_cases e : i = j
  ·
   subst e;rw [upd_same, upd_ne R r (fun e => hik e.symm)];exact hfree k (fun e => hik e.symm)
  ·
   rw [upd_ne R r e];by_cases e2 : k = j
   ·
    subst e2;rw [upd_same]
    rcases hfree i e with hn | hn
    ·
     rw [hn]
     cases blkOf (R i).A with
     | none => exact .inl rfl
     | some z => exact .inr (by simp)
    ·
     exact .inr fun e3 => hn e3.symm
   ·
    rw [upd_ne R r e2]; exact h.2.1 i k hik
 ·
  by_cases e : i = j
  ·
   subst e; rw [upd_same] at hi; exact hz z hi
  ·
   rw [upd_ne R r e] at hi; have := h.2.2 i z hi; omega
theorem Fo.add (h : Fo b hi w R) (hn : R j = rowN) (hb : Below w.heap.size w w') (hw : hi <= w.heap.size) {b' : Nat} (hb' : hi <= b') (hbb : b <= b') (ho : r.own b' w') (hh : w'.heap.size <= hi') : Fo b hi' w' (upd R j r) := by
 refine h.put (by rw [hn]; exact grownBy_of_below hb) (Ow.mono ho hbb) ?_ (by have := hb.size; omega) (fun z hz => ?_)
 ·
  cases hr : blkOf r.A with
  | none => exact .inr (.inl rfl)
  | some z => exact .inr (.inr ⟨z, rfl, Nat.le_trans hb' (Ow.blk ho hr).1⟩)
 ·
  have := (Ow.blk ho hz).2; omega
theorem Fo.merge {mid : Nat} {R2 : Fam} (p : Nat × Nat -> Bool) (h : Fo b mid w R) (h2 : Fo mid hi w R2) (hb : b <= mid) (hm : mid <= hi) : Fo b hi w (fun i => if p i then R i else R2 i) := by
 refine ⟨fun j => ?_, fun i j hij => ?_, fun j z hz => ?_⟩
 ·
  by_cases e : p j = true
  ·
   simp only [if_pos e]; exact h.1 j
  ·
   simp only [if_neg e]; exact (h2.1 j).mono hb
 ·
  by_cases e : p i = true
  ·
   by_cases e2 : p j = true
   ·
    simp only [if_pos e, if_pos e2]; exact h.2.1 i j hij
   ·
    simp only [if_pos e, if_neg e2]
    cases hz : blkOf (R i).A with
    | none => exact .inl rfl
    | some z => exact .inr fun e3 => by have := h.2.2 i z hz; have := (Ow.blk (h2.1 j) e3.symm).1; omega
  ·
   by_cases e2 : p j = true
   ·
    simp only [if_neg e, if_pos e2]
    cases hz : blkOf (R2 i).A with
    | none => exact .inl rfl
    | some z => exact .inr fun e3 => by have := h.2.2 j z e3.symm; have := (Ow.blk (h2.1 i) hz).1; omega
   ·
    simp only [if_neg e, if_neg e2]; exact h2.2.1 i j hij
 ·
  by_cases e : p j = true
  ·
   simp only [if_pos e] at hz; have := h.2.2 j z hz; omega
  ·
   simp only [if_neg e] at hz; exact h2.2.2 j z hz
end
/-! Items -/
def ItF (R : Fam) (I : OA) (n c : Nat) (its : List It) : Prop :=
 its.length = n /\ (∃ C : List C3, C.length = n /\ R (0, 0) = ⟨61, 3, I, n, c, cells3 C⟩ /\ ∀ j, j < n -> ∃ NA nn nc MA mn mc, C[j]?.getD nil3 = (.slice NA nn nc, .slice MA mn mc, .bool (its[j]?.getD zIt).2.2) /\ R (3, j) = rowT NA nn nc (its[j]?.getD zIt).1 /\ R (4, j) = rowI MA mn mc (its[j]?.getD zIt).2.1) /\
  ∀ j, n <= j -> R (3, j) = rowN /\ R (4, j) = rowN
theorem cells3_snoc (C : List C3) (x : C3) : cells3 (C ++ [x]) = cells3 C ++ [x.1, x.2.1, x.2.2] := by
 induction C with
 | nil => rfl
 | cons a r ih => rw [List.cons_append, cells3_cons, cells3_cons, ih]; rfl
theorem ItF.push {R : Fam} {I : OA} {n c : Nat} {its : List It} (h : ItF R I n c its) (it : It) (NA : OA) (nn nc : Nat) (MA : OA) (mn mc : Nat) :
  ∃ xs, R (0, 0) = ⟨61, 3, I, n, c, xs⟩ /\ ∀ (I' : OA) (c' : Nat), ItF (upd (upd (upd R (3, n) (rowT NA nn nc it.1)) (4, n) (rowI MA mn mc it.2.1)) (0, 0) ⟨61, 3, I', n + 1, c', xs ++ [.slice NA nn nc, .slice MA mn mc, .bool it.2.2]⟩) I' (n + 1) c' (its ++ [it]) := by
 obtain ⟨hl, ⟨C, hC, h0, hj⟩, hz⟩ := h;refine ⟨_, h0, fun I' c' => ⟨by simp [hl], ⟨C ++ [(.slice NA nn nc, .slice MA mn mc, .bool it.2.2)], by simp [hC], by rw [upd_same, cells3_snoc], fun j hlt => ?_⟩, fun j hle => ?_⟩⟩
 ·
  by_cases e : j = n
  ·
   subst e;have e1 : (its ++ [it])[j]?.getD zIt = it := by rw [<- hl]; simp
   have e2 : (C ++ [((.slice NA nn nc, .slice MA mn mc, .bool it.2.2) : C3)])[j]?.getD nil3 = (.slice NA nn nc, .slice MA mn mc, .bool it.2.2) := by rw [<- hC]; simp
   rw [e1, e2];exact ⟨NA, nn, nc, MA, mn, mc, rfl, by simp [upd], by simp [upd]⟩
  ·
   have e1 : (its ++ [it])[j]?.getD zIt = its[j]?.getD zIt := by rw [List.getElem?_append_left Om]
   have e2 : (C ++ [((.slice NA nn nc, .slice MA mn mc, .bool it.2.2) : C3)])[j]?.getD nil3 = C[j]?.getD nil3 := by rw [List.getElem?_append_left Om]
   rw [e1, e2];obtain ⟨NA', nn', nc', MA', mn', mc', q1, q2, q3⟩ := hj j Om;exact ⟨NA', nn', nc', MA', mn', mc', q1, by simp [upd, e, q2], by simp [upd, e, q3]⟩
 ·
  obtain ⟨q1, q2⟩ := hz j Om;have e : j ≠ n := Om;exact ⟨by simp [upd, e, q1], by simp [upd, e, q2]⟩
theorem ItF.rd {b hi : Nat} {w : World} {R : Fam} {I : OA} {n c : Nat} {its : List It} (h : ItF R I n c its) (hF : Fo b hi w R) : RdIt w I n its := by
 obtain ⟨hl, ⟨C, hC, h0, hj⟩, hz⟩ := h;refine ⟨hl, fun hn => ?_⟩;have ho := hF.1 (0, 0);rw [h0] at ho;have ho : Ow 61 3 b w I n c (cells3 C) := ho;obtain ⟨g, rfl, hb, hg⟩ := ho.form_ hn;refine ⟨g, 0, rfl, hg, fun j hlt => ?_⟩;obtain ⟨NA, nn, nc, MA, mn, mc, e, q1, q2⟩ := hj j hlt;obtain ⟨g0, g1, g2⟩ := cells3_get C j Om;rw [e] at g0 g1 g2;have o1 := hF.1 (3, j);rw [q1] at o1;have o1 : OwT b w NA nn nc (its[j]?.getD zIt).1 := o1;have o2 := hF.1 (4, j);rw [q2] at o2;have o2 : OwI b w MA mn mc (its[j]?.getD zIt).2.1 := o2;refine ⟨NA, nn, nc, MA, mn, mc, ?_, ?_, ?_, o1.rd, o2.rd, o1.cap_, Ow.cap_ o2⟩
 ·
  rw [Nat.zero_add, Ow.cell_ ho _ Om]; exact g0
 ·
  rw [Nat.zero_add, Ow.cell_ ho _ Om]; exact g1
 ·
  rw [Nat.zero_add, Ow.cell_ ho _ Om]; exact g2
theorem ItF.cap {b hi : Nat} {w : World} {R : Fam} {I : OA} {n c : Nat} {its : List It} (h : ItF R I n c its) (hF : Fo b hi w R) : n <= c := by
 obtain ⟨hl, ⟨C, hC, h0, hj⟩, hz⟩ := h;have ho := hF.1 (0, 0);rw [h0] at ho;exact (Ow.cap_ ho).1
/-! Tables of rows -/
def TbF (t k : Nat) (R : Fam) (A : OA) (n c : Nat) (ll : List (List Int)) : Prop :=
 ll.length = n /\ (∃ (B : Nat -> OA) (m d : Nat -> Nat), R (t, 0) = ⟨25, 1, A, n, c, (List.range n).map fun j => .slice (B j) (m j) (d j)⟩ /\ ∀ j, j < n -> R (k, j) = rowI (B j) (m j) (d j) (ll[j]?.getD [])) /\ ∀ j, n <= j -> R (k, j) = rowN
theorem TbF.push {t k : Nat} (htk : t ≠ k) {R : Fam} {A : OA} {n c : Nat} {ll : List (List Int)} (h : TbF t k R A n c ll) (l : List Int) (B0 : OA) (m0 d0 : Nat) :
  ∃ xs, R (t, 0) = ⟨25, 1, A, n, c, xs⟩ /\ ∀ (A' : OA) (c' : Nat), TbF t k (upd (upd R (k, n) (rowI B0 m0 d0 l)) (t, 0) ⟨25, 1, A', n + 1, c', xs ++ [.slice B0 m0 d0]⟩) A' (n + 1) c' (ll ++ [l]) := by
 obtain ⟨hl, ⟨B, m, d, h0, hj⟩, hz⟩ := h;have hkt : k ≠ t := fun e => htk e.symm
 refine ⟨_, h0, fun A' c' => ⟨by simp [hl], ⟨fun j => if j = n then B0 else B j, fun j => if j = n then m0 else m j, fun j => if j = n then d0 else d j, ?_, fun j hlt => ?_⟩, fun j hle => ?_⟩⟩
 ·
  rw [upd_same, List.range_succ, List.map_append]
  congr 2
  ·
   refine List.map_congr_left fun j hj => ?_
   have : j ≠ n := by simp at hj; omega
   simp [this]
  ·
   simp
 ·
  by_cases e : j = n
  ·
   subst e;have e1 : (ll ++ [l])[j]?.getD [] = l := by rw [<- hl]; simp
   rw [e1];simp [upd, hkt]
  ·
   have e1 : (ll ++ [l])[j]?.getD [] = ll[j]?.getD [] := by rw [List.getElem?_append_left Om]
   rw [e1];simp [upd, hkt, e, hj j Om]
 ·
  have e : j ≠ n := Om;simp [upd, hkt, e, hz j Om]
theorem TbF.rd {t k b hi : Nat} {w : World} {R : Fam} {A : OA} {n c : Nat} {ll : List (List Int)} (h : TbF t k R A n c ll) (hF : Fo b hi w R) : RdM w A n ll := by
 obtain ⟨hl, ⟨B, m, d, h0, hj⟩, hz⟩ := h;refine ⟨hl, fun hn => ?_⟩;have ho := hF.1 (t, 0);rw [h0] at ho;have ho : Ow 25 1 b w A n c ((List.range n).map fun j => .slice (B j) (m j) (d j)) := ho;obtain ⟨g, rfl, hb, hg⟩ := ho.form_ hn;refine ⟨g, 0, rfl, hg, fun j hlt => ?_⟩;have o1 := hF.1 (k, j);rw [hj j hlt] at o1;have o1 : OwI b w (B j) (m j) (d j) (ll[j]?.getD []) := o1;refine ⟨B j, m j, d j, ?_, o1.rd, (Ow.cap_ o1).1, (Ow.cap_ o1).2⟩;rw [Nat.zero_add, Ow.cell_ ho _ Om];simp [hlt]
theorem ItF.of {R R' : Fam} {I : OA} {n c : Nat} {its : List It} (h : ItF R I n c its) (h0 : R' (0, 0) = R (0, 0)) (h1 : ∀ j, R' (3, j) = R (3, j) /\ R' (4, j) = R (4, j)) : ItF R' I n c its := by
 obtain ⟨hl, ⟨C, hC, h2, hj⟩, hz⟩ := h;exact ⟨hl, ⟨C, hC, h0.trans h2, fun j hlt => by obtain ⟨NA, nn, nc, MA, mn, mc, q1, q2, q3⟩ := hj j hlt; exact ⟨NA, nn, nc, MA, mn, mc, q1, (h1 j).1.trans q2, (h1 j).2.trans q3⟩⟩, fun j hle => ⟨(h1 j).1.trans (hz j hle).1, (h1 j).2.trans (hz j hle).2⟩⟩
theorem TbF.of {t k : Nat} {R R' : Fam} {A : OA} {n c : Nat} {ll : List (List Int)} (h : TbF t k R A n c ll) (h0 : R' (t, 0) = R (t, 0)) (h1 : ∀ j, R' (k, j) = R (k, j)) : TbF t k R' A n c ll := by
 obtain ⟨hl, ⟨B, m, d, h2, hj⟩, hz⟩ := h;exact ⟨hl, ⟨B, m, d, h0.trans h2, fun j hlt => (h1 j).trans (hj j hlt)⟩, fun j hle => (h1 j).trans (hz j hle)⟩
section
variable {b hi : Nat} {w w' : World} {R : Fam} {j : Nat × Nat} {r : Rw}
theorem Fo.wrote (h : Fo b hi w R) (hg : w.grownBy w' (blkOf (R j).A)) (ho : r.own b w') (hA : r.A = (R j).A) : Fo b hi w' (upd R j r) /\ Mid b hi w w' :=
 ⟨h.put hg ho (.inl (by rw [hA])) (Nat.le_refl _) (fun z hz => h.2.2 j z (by rw [<- hA]; exact hz)), Mid.of_grown hg fun k hk => ⟨(Ow.blk (h.1 j) hk).1, h.2.2 j k hk⟩⟩
theorem Fo.ownT {A : OA} {n c : Nat} {l : List ByteArray} (h : Fo b hi w R) (e : R j = rowT A n c l) : OwT b w A n c l := by have := h.1 j; rw [e] at this; exact this
theorem Fo.ownI {A : OA} {n c : Nat} {l : List Int} (h : Fo b hi w R) (e : R j = rowI A n c l) : OwI b w A n c l := by have := h.1 j; rw [e] at this; exact this
end
/-! What is marked -/
def itWt (it : It) : Int := it.1.length + it.2.1.length + 1
section
variable {ops : Array Oper} {rest : List Oper} {o : Oper} {a : Act} {Q : Exit -> Act -> World -> Prop}
theorem wpl_push_item (R W : World) (v0 v1 v2 : Value) (hv : v0.oneCell' = true /\ v1.oneCell' = true /\ v2.oneCell' = true) (gx : Nat) (hgx : gx = W.heap.size) (hgd : o.guard = none) (s x : Operand) (ho : o.op = .call { callee := .builtin .append, args := #[s, x], argTypes := #[28, 28] })
  (A : OA) (n c : Nat) (xs : List Value) (hs : a.eval s = .slice A n c) {base : Nat} (hbase : R.heap.size <= base) (hbW : base <= W.heap.size) {W₀ : World} (hown₀ : Ow 61 3 base W₀ A n c xs) (hW₀ : Below W₀.heap.size W₀ W) (hR : Below R.heap.size R W)
  (hx : a.eval x = .slice (some ⟨gx, 0, none⟩) 1 1) (hn : n <= 1099511627776)
  (h : ∀ A' c' y, Ow 61 3 base (ext R y) A' (n + 1) c' (xs ++ [v0, v1, v2]) -> W.grownBy (ext R y) (blkOf A) -> (blkOf A' = blkOf A ∨ ∃ g, blkOf A' = some g /\ W.heap.size < g) -> wpList Tryz.prog ops Q rest (a.put o.dst (.slice A' (n + 1) c')) (ext R y)) :
  wpList Tryz.prog ops Q (o :: rest) a (W.alloc (.cells #[v0, v1, v2] 61)) := by
 subst hgx;have hown := hown₀.below hW₀;obtain ⟨i0, hi0, hz0, hz1, hz2⟩ := info_parts Item_info;have hRw : Below R.heap.size R (W.alloc (.cells #[v0, v1, v2] 61)) := bAlloc hR _;have hown1 := hown.below (bAlloc (Below.refl W.heap.size W) (.cells #[v0, v1, v2] 61));refine wpList_append_own_at _ hgd s x _ ho base 61 i0 _ 3 _ Tryz.underlying28 hi0 hz0 hz1 hz2 rfl Om (.slice A n c) n xs hs hown1
  ⟨W.heap.size, 0, none⟩ 1 1 [v0, v1, v2] hx rfl ?_ ?_ (by simp only [maxLen]; omega) Om (by simp; omega) ?_
 ·
  intro j u hu
  match j with
  | 0 => simp at hu; subst hu; simp [Addr.add, go_sem]
  | 1 => simp at hu; subst hu; simp [Addr.add, go_sem]
  | 2 => simp at hu; subst hu; simp [Addr.add, go_sem]
  | j + 3 => simp at hu
 ·
  intro u hu;simp only [List.mem_cons, List.not_mem_nil, or_false] at hu
  rcases hu with rfl | rfl | rfl
  ·
   exact hv.1
  ·
   exact hv.2.1
  ·
   exact hv.2.2
 ·
  intro v' w' hown' hg _ hd;rw [ownBlock_slice] at hg hd;have hBw : Below R.heap.size R w' := below_grown hRw hg (fun k hk => Nat.le_trans hbase (hown1.blk hk).1);obtain ⟨y, rfl⟩ := ext_ex hBw
  rcases hown'.2 with ⟨_, h0⟩ | ⟨g', cap, cur, rfl, hrest⟩
  ·
   omega
  ·
   rw [ownBlock_slice] at hd;refine h _ _ y hown' ((World.grownBy_alloc W _ _).trans hg) ?_
   rcases hd with hd | hd
   ·
    exact .inl hd
   ·
    exact .inr ⟨_, hd, by simp⟩
end
section
variable {b hi : Nat} {w w' : World} {R : Fam} {j : Nat × Nat}
theorem Fo.lit (h : Fo b hi w R) (hn : R j = rowN) (hw : hi <= w.heap.size) (hb : b <= w.heap.size) (e s n : Nat) (cs : Array Value) (hs : cs.size = n * s) (hm : n <= maxLen) (l : List Value) (hl : cs.toList = l) : Fo b (w.heap.size + 1) (w.alloc (.cells cs e)) (upd R j ⟨e, s, some ⟨w.heap.size, 0, none⟩, n, n, l⟩) := by
 subst hl;refine h.put (by rw [hn]; exact grownBy_of_below bL) ?_ (.inr (.inr ⟨w.heap.size, rfl, hw⟩)) Om (fun z hz => by have : w.heap.size = z := Option.some.inj hz; omega);exact World.ownsRow_lit (base := b) (e := e) (size := s) w cs n hb hm hs
theorem Fo.store {e s g n c : Nat} {xs : List Value} (h : Fo b hi w R) (e0 : R j = ⟨e, s, some ⟨g, 0, none⟩, n, c, xs⟩) (i : Nat) (v : Value) : Fo b hi (w.setCell ⟨g, i, none⟩ v) (upd R j ⟨e, s, some ⟨g, 0, none⟩, n, c, xs.set i v⟩) := by
 refine (h.wrote (by rw [e0]; exact gSetM _ _ _ _) ?_ (by rw [e0])).1;have ho := h.1 j;rw [e0] at ho;exact (Ow.stored_ ho i v).1
theorem Fo.at_ {e s n c : Nat} {A : OA} {xs : List Value} (h : Fo b hi w R) (e0 : R j = ⟨e, s, A, n, c, xs⟩) : Ow e s b w A n c xs := by
 have ho := h.1 j;rw [e0] at ho;exact ho
theorem Fo.cell {e s g n c : Nat} {xs : List Value} (h : Fo b hi w R) (e0 : R j = ⟨e, s, some ⟨g, 0, none⟩, n, c, xs⟩) (i : Nat) (v : Value) (hv : xs[i]? = some v) : w.cell? ⟨g, i, none⟩ = some v /\ w.frozen? ⟨g, i, none⟩ = false := by
 have ho := h.at_ e0;have hl := ho.len;have hi := (List.getElem?_eq_some_iff.1 hv).1;exact ⟨(Ow.cell_ ho i Om).trans hv, Ow.frozen_ ho i⟩
theorem Fo.free {i k : Nat × Nat} (h : Fo b hi w R) (hne : i ≠ k) : blkOf (R i).A = none ∨ blkOf (R i).A ≠ blkOf (R k).A := h.2.1 i k hne
theorem Fo.addT {A : OA} {n c b' : Nat} {l : List ByteArray} (h : Fo b hi w R) (hn : R j = rowN) (hb : Below w.heap.size w w') (hw : hi <= w.heap.size) (hb' : hi <= b') (hbb : b <= b') (ho : OwT b' w' A n c l) : Fo b w'.heap.size w' (upd R j (rowT A n c l)) := h.add hn hb hw hb' hbb ho (Nat.le_refl _)
theorem Fo.addI {A : OA} {n c b' : Nat} {l : List Int} (h : Fo b hi w R) (hn : R j = rowN) (hb : Below w.heap.size w w') (hw : hi <= w.heap.size) (hb' : hi <= b') (hbb : b <= b') (ho : OwI b' w' A n c l) : Fo b w'.heap.size w' (upd R j (rowI A n c l)) := h.add hn hb hw hb' hbb ho (Nat.le_refl _)
theorem Fo.grewT {A A' : OA} {n c n' c' : Nat} {l l' : List ByteArray} (h : Fo b hi w R) (e0 : R j = rowT A n c l) (hg : w.grownBy w' (blkOf A)) (ho : OwT b w' A' n' c' l') (hd : blkOf A' = blkOf A ∨ ∃ g, blkOf A' = some g /\ w.heap.size < g) (hw : hi <= w.heap.size) : Fo b w'.heap.size w' (upd R j (rowT A' n' c' l')) := by
 refine h.put (by rw [e0]; exact hg) ho ?_ (Nat.le_trans hw hg.size) (fun z hz => (Ow.blk ho hz).2)
 rcases hd with hd | ⟨g, hd, hlt⟩
 ·
  exact .inl (by rw [e0]; exact hd)
 ·
  exact .inr (.inr ⟨g, hd, Om⟩)
theorem Fo.grewI {A A' : OA} {n c n' c' : Nat} {l l' : List Int} (h : Fo b hi w R) (e0 : R j = rowI A n c l) (hg : w.grownBy w' (blkOf A)) (ho : OwI b w' A' n' c' l') (hd : blkOf A' = blkOf A ∨ ∃ g, blkOf A' = some g /\ w.heap.size < g) (hw : hi <= w.heap.size) : Fo b w'.heap.size w' (upd R j (rowI A' n' c' l')) := by
 refine h.put (by rw [e0]; exact hg) ho ?_ (Nat.le_trans hw hg.size) (fun z hz => (Ow.blk ho hz).2)
 rcases hd with hd | ⟨g, hd, hlt⟩
 ·
  exact .inl (by rw [e0]; exact hd)
 ·
  exact .inr (.inr ⟨g, hd, Om⟩)
theorem Fo.grew {e s : Nat} {A A' : OA} {n c n' c' : Nat} {xs xs' : List Value} (h : Fo b hi w R) (e0 : R j = ⟨e, s, A, n, c, xs⟩) (hg : w.grownBy w' (blkOf A)) (ho : Ow e s b w' A' n' c' xs') (hd : blkOf A' = blkOf A ∨ ∃ g, blkOf A' = some g /\ w.heap.size < g) (hw : hi <= w.heap.size) : Fo b w'.heap.size w' (upd R j ⟨e, s, A', n', c', xs'⟩) := by
 refine h.put (by rw [e0]; exact hg) ho ?_ (Nat.le_trans hw hg.size) (fun z hz => (Ow.blk ho hz).2)
 rcases hd with hd | ⟨g, hd, hlt⟩
 ·
  exact .inl (by rw [e0]; exact hd)
 ·
  exact .inr (.inr ⟨g, hd, Om⟩)
theorem Fo.below' (h : Fo b hi w R) (hb : Below w.heap.size w w') (hw : hi <= w.heap.size) : Fo b w'.heap.size w' R := (h.below hb).mono (Nat.le_refl _) (Nat.le_trans hw hb.size)
end
def PfF (R : Fam) (I : OA) (n c : Nat) (its : List It) (GA : OA) (gn gc : Nat) (gg : List (List Int)) (KA : OA) (kn kc : Nat) (kk : List (List Int)) : Prop := ItF R I n c its /\ TbF 1 5 R GA gn gc gg /\ TbF 2 6 R KA kn kc kk
end Go.Proofs.YtlfhhkgleapamaaGreatDoor
