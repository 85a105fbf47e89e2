/- Memory that drawn programmes lie in: each block has a kind, rows of ints, of strings, of elements; items lie in blocks of their own. Appends at any world. Conditions: lengths below 2^40. -/
import Derived.Test.YtlfhhkgleapamaaGreatDoorQDraws
import Derived.Test.YtlfhhkgleapamaaGreatDoorQStrs0
import Derived.Test.YtlfhhkgleapamaaGreatDoorQGoods
set_option linter.unusedVariables false
set_option linter.unusedSimpArgs false
set_option maxRecDepth 100000
set_option maxHeartbeats 16000000
namespace Go.Proofs.YtlfhhkgleapamaaGreatDoor
open Go.RowKit
section
variable {ops : Array Oper} {o : Oper} {a : Act} {K : Act -> World -> Prop} {Q : Exit -> Act -> World -> Prop} {E : Prop}
theorem step_append {W : World} (t e : TypeId) (sz : Nat) (i0 : TypeInfo) (z : Value) (by_ : Nat) (ht : (Tryz.prog).underlying t = some (.slice e)) (hi : (Tryz.prog).info? e = some i0) (hz : i0.zero = some z) (hs1 : i0.size = sz) (hb1 : i0.bytes = by_) (hzs : z.cells.size = sz) (hsz : 0 < sz) (hby : by_ <= 128) (hgd : o.guard = none) (s x : Operand) (ho : o.op = .call { callee := .builtin .append, args := #[s, x], argTypes := #[t, t] })
  (A : OA) (n c : Nat) (xs : List Value) (hs : a.eval s = .slice A n c) {base : Nat} (hown : Ow e sz base W A n c xs) (hbase : base <= W.heap.size)
  (B : OA) (m d : Nat) (ys : List Value) (hx : a.eval x = .slice B m d) (hr : Rd sz W B m ys) (h1 : ∀ u ∈ ys, u.oneCell' = true) (hn : n + m <= 1099511627776)
  (h : ∀ A' c' w', Ow e sz base w' A' (n + m) c' (xs ++ ys) -> W.grownBy w' (blkOf A) -> (blkOf A' = blkOf A ∨ blkOf A' = some W.heap.size) -> K (a.put o.dst (.slice A' (n + m) c')) w') :
  if Region.wanted o (yielded ops a.tmps) = true then Oper.wp Tryz.prog o a W K Q else E := by
 have hw : Region.wanted o (yielded ops a.tmps) = true := by simp [Region.wanted, hgd]
 rw [if_pos hw];obtain ⟨v', w', hrun, h2, h3, h4⟩ := run_append_rd (P := Tryz.prog) W base t o.type e i0 z sz by_ ht hi hz hs1 hb1 hzs hsz (.slice A n c) n xs hown B m d ys hr h1 (by simp only [maxLen]; omega) (Nat.le_trans (Nat.mul_le_mul hn hby) Om) hbase;unfold Oper.wp execOp;simp only [ho, resolve, invoke, builtin, Sem.run_bind, Sem.run_pure, Result.andThen_ok, List.map_toArray, List.map_cons, List.map_nil, hs, hx, hrun];rw [ownBlock_slice] at h3 h4
 rcases h2.2 with ⟨hv, h0⟩ | ⟨g', cap, cur, hv, hrest⟩
 ·
  subst hv;rw [ownBlock_slice] at h4;have e : Value.slice none 0 0 = .slice none (n + m) 0 := by rw [h0]
  rw [e] at h2 ⊢;exact h none 0 w' h2 h3 h4
 ·
  subst hv;rw [ownBlock_slice] at h4;exact h _ _ w' h2 h3 h4
end
section
variable {ops : Array Oper} {o : Oper} {a : Act} {K : Act -> World -> Prop} {Q : Exit -> Act -> World -> Prop} {E : Prop} {W : World} (hgd : o.guard = none) (s x : Operand) {A : OA} {n c : Nat} {base : Nat} (hbase : base <= W.heap.size) {B : OA} {m d : Nat} (hx : a.eval x = .slice B m d) (hs : a.eval s = .slice A n c) (hn : n + m <= 1099511627776)
include hgd hbase hx hs hn
theorem app_int (ho : o.op = .call { callee := .builtin .append, args := #[s, x], argTypes := #[25, 25] }) {l r : List Int} (hown : OwI base W A n c l) (hr : RdI W B m r)
  (h : ∀ A' c' w', OwI base w' A' (n + m) c' (l ++ r) -> W.grownBy w' (blkOf A) -> (blkOf A' = blkOf A ∨ blkOf A' = some W.heap.size) -> K (a.put o.dst (.slice A' (n + m) c')) w') :
  if Region.wanted o (yielded ops a.tmps) = true then Oper.wp Tryz.prog o a W K Q else E := by
 obtain ⟨i0, hi0, hz0, hz1, hz2⟩ := info_parts int_info;refine step_append 25 3 1 i0 _ _ Tryz.underlying25 hi0 hz0 hz1 hz2 rfl Om Om hgd s x ho A n c _ hs hown hbase B m d _ hx hr (by intro u hu; simp only [List.mem_map] at hu; obtain ⟨z, _, rfl⟩ := hu; rfl) hn (fun A' c' w' h1 => h A' c' w' ?_);rw [<- List.map_append] at h1;exact h1
theorem app_str (ho : o.op = .call { callee := .builtin .append, args := #[s, x], argTypes := #[59, 59] }) {l r : List ByteArray} (hown : OwT base W A n c l) (hr : RdT W B m r)
  (h : ∀ A' c' w', OwT base w' A' (n + m) c' (l ++ r) -> W.grownBy w' (blkOf A) -> (blkOf A' = blkOf A ∨ blkOf A' = some W.heap.size) -> K (a.put o.dst (.slice A' (n + m) c')) w') :
  if Region.wanted o (yielded ops a.tmps) = true then Oper.wp Tryz.prog o a W K Q else E := by
 obtain ⟨i0, hi0, hz0, hz1, hz2⟩ := info_parts string_info;refine step_append 59 9 1 i0 _ _ Tryz.underlying59 hi0 hz0 hz1 hz2 rfl Om Om hgd s x ho A n c _ hs hown hbase B m d _ hx hr (by intro u hu; simp only [List.mem_map] at hu; obtain ⟨z, _, rfl⟩ := hu; rfl) hn (fun A' c' w' h1 => h A' c' w' ?_);rw [<- List.map_append] at h1;exact h1
theorem app_item (ho : o.op = .call { callee := .builtin .append, args := #[s, x], argTypes := #[28, 28] }) {xs ys : List Value} (hown : Ow 61 3 base W A n c xs) (hr : Rd 3 W B m ys) (h1 : ∀ u ∈ ys, u.oneCell' = true)
  (h : ∀ A' c' w', Ow 61 3 base w' A' (n + m) c' (xs ++ ys) -> W.grownBy w' (blkOf A) -> (blkOf A' = blkOf A ∨ blkOf A' = some W.heap.size) -> K (a.put o.dst (.slice A' (n + m) c')) w') :
  if Region.wanted o (yielded ops a.tmps) = true then Oper.wp Tryz.prog o a W K Q else E := by
 obtain ⟨i0, hi0, hz0, hz1, hz2⟩ := info_parts Item_info;exact step_append 28 61 3 i0 _ _ Tryz.underlying28 hi0 hz0 hz1 hz2 rfl Om Om hgd s x ho A n c _ hs hown hbase B m d _ hx hr h1 hn h
theorem app_el (ho : o.op = .call { callee := .builtin .append, args := #[s, x], argTypes := #[24, 24] }) {l r : List El} (hown : Ow 112 4 base W A n c (elCells l)) (hr : RdEl W B m r)
  (h : ∀ A' c' w', Ow 112 4 base w' A' (n + m) c' (elCells (l ++ r)) -> W.grownBy w' (blkOf A) -> (blkOf A' = blkOf A ∨ blkOf A' = some W.heap.size) -> K (a.put o.dst (.slice A' (n + m) c')) w') :
  if Region.wanted o (yielded ops a.tmps) = true then Oper.wp Tryz.prog o a W K Q else E := by
 obtain ⟨i0, hi0, hz0, hz1, hz2⟩ := info_parts Element_info;refine step_append 24 112 4 i0 _ _ Tryz.underlying24 hi0 hz0 hz1 hz2 rfl Om Om hgd s x ho A n c _ hs hown hbase B m d _ hx hr ?_ hn (fun A' c' w' h1 => h A' c' w' ?_)
 ·
  intro u hu;simp only [elCells, List.mem_flatMap] at hu;obtain ⟨p, _, hp⟩ := hu;simp only [List.mem_cons, List.not_mem_nil, or_false] at hp
  rcases hp with rfl | rfl | rfl | rfl <;> rfl
 ·
  have e : elCells (l ++ r) = elCells l ++ elCells r := by simp [elCells]
  rw [e]; exact h1
end
section
variable {w : World} {b : Nat}
theorem Rd.one_ {s : Nat} {vs : List Value} (hl : vs.length = s) (h : ∀ j u, vs[j]? = some u -> w.cell? ⟨b, j, none⟩ = some u) (hb : b < w.heap.size) : Rd s w (some ⟨b, 0, none⟩) 1 vs :=
 ⟨Om, fun _ => ⟨b, 0, rfl, hb, fun j u hu => by rw [Nat.zero_add]; exact h j u hu⟩⟩
end
abbrev Kf := Nat -> Nat × Nat × Nat
def Cf (base : Nat) (w : World) (b : Nat) (k : Nat × Nat × Nat) : Prop := k.2.1 <= 1000 /\
 ((k.1 = 1 /\ ∃ l, OwI base w (some ⟨b, 0, none⟩) k.2.1 k.2.2 l) ∨ (k.1 = 2 /\ ∃ l, OwT base w (some ⟨b, 0, none⟩) k.2.1 k.2.2 l /\ ∀ x ∈ l, x.size <= 100) ∨ (k.1 = 3 /\ ∃ l : List El, Ow 112 4 base w (some ⟨b, 0, none⟩) k.2.1 k.2.2 (elCells l) /\ ∀ x ∈ l, x.1.size <= 100))
def Th (base : Nat) (κ : Kf) (w : World) : Prop := ∀ b, (κ b).1 ≠ 0 -> Cf base w b (κ b)
def k0 : Kf := fun _ => (0, 0, 0)
def ku (κ : Kf) (b : Nat) (k : Nat × Nat × Nat) : Kf := fun x => if x = b then k else κ x
def Kx (s : Nat) (κ κ' : Kf) : Prop := ∀ b, b < s -> κ' b = κ b
theorem Kx.refl_ (s : Nat) (κ : Kf) : Kx s κ κ := fun _ _ => rfl
theorem Kx.trans_ {s s' : Nat} {κ κ' κ'' : Kf} (h : Kx s κ κ') (h' : Kx s' κ' κ'') (hs : s <= s') : Kx s κ κ'' := fun b hb => (h' b Om).trans (h b hb)
theorem Kx.mono_ {s s' : Nat} {κ κ' : Kf} (h : Kx s κ κ') (hs : s' <= s) : Kx s' κ κ' := fun b hb => h b Om
theorem Kx.up_ {s b : Nat} {κ : Kf} (k : Nat × Nat × Nat) (hb : s <= b) : Kx s κ (ku κ b k) := fun x hx => by simp [ku, show x ≠ b by omega]
theorem Th.k0_ {base : Nat} {w : World} : Th base k0 w := fun b h => absurd rfl h
section
variable {base b : Nat} {w w' : World} {κ κ' : Kf} {k : Nat × Nat × Nat}
theorem Cf.row {row : Option Nat} (h : Cf base w b k) (hg : w.grownBy w' row) (hb : some b ≠ row) : Cf base w' b k := by
 obtain ⟨h0, h | h | h⟩ := h
 ·
  obtain ⟨h1, l, h2⟩ := h;exact ⟨h0, .inl ⟨h1, l, h2.kept hg (.inr hb)⟩⟩
 ·
  obtain ⟨h1, l, h2, h3⟩ := h;exact ⟨h0, .inr (.inl ⟨h1, l, h2.kept hg (.inr hb), h3⟩)⟩
 ·
  obtain ⟨h1, l, h2, h3⟩ := h;exact ⟨h0, .inr (.inr ⟨h1, l, h2.kept hg (.inr hb), h3⟩)⟩
theorem Cf.blk (h : Cf base w b k) : base <= b /\ b < w.heap.size := by
 obtain ⟨h0, h | h | h⟩ := h
 ·
  obtain ⟨h1, l, h2⟩ := h; exact h2.blk rfl
 ·
  obtain ⟨h1, l, h2, h3⟩ := h; exact h2.blk rfl
 ·
  obtain ⟨h1, l, h2, h3⟩ := h; exact h2.blk rfl
theorem Th.blk (h : Th base κ w) (hb : (κ b).1 ≠ 0) : base <= b /\ b < w.heap.size := (h b hb).blk
theorem Th.new_ (h : Th base κ w) (hb : w.heap.size <= b) : (κ b).1 = 0 := by
 rcases Nat.eq_zero_or_pos (κ b).1 with h0 | h0
 ·
  exact h0
 ·
  have := (h.blk (b := b) Om).2; omega
theorem Th.low_ (h : Th base κ w) (hb : b < base) : (κ b).1 = 0 := by
 rcases Nat.eq_zero_or_pos (κ b).1 with h0 | h0
 ·
  exact h0
 ·
  have := (h.blk (b := b) Om).1; omega
theorem Th.row {row : Option Nat} (h : Th base κ w) (hg : w.grownBy w' row) (hr : ∀ b, row = some b -> (κ b).1 = 0) : Th base κ w' := fun b hb =>
 (h b hb).row hg (fun e => hb (hr b e.symm))
theorem Th.below (h : Th base κ w) (hb : Below w.heap.size w w') : Th base κ w' := h.row (row := none) (grownBy_of_below hb) (fun b e => by cases e)
theorem Th.grow {g : Nat} (h : Th base κ w) (hg : w.grownBy w' (some g)) (hk : (κ g).1 = 0) : Th base κ w' := h.row hg (fun b e => by injection e with e; subst e; exact hk)
theorem Th.set0 {j : Nat} {v : Value} (h : Th base κ w) (hk : (κ b).1 = 0) : Th base κ (w.setCell ⟨b, j, none⟩ v) := h.grow (gSetM w b j v) hk
theorem Th.put_ {v : Value} {j : Nat} (h : Th base κ w) (hc : Cf base (w.setCell ⟨b, j, none⟩ v) b (κ b)) : Th base κ (w.setCell ⟨b, j, none⟩ v) := fun x hx => by
 by_cases e : x = b
 ·
  subst e; exact hc
 ·
  exact (h x hx).row (gSetM w b j v) (fun e' => e (by injection e'))
theorem Th.setI (h : Th base κ w) (hk : (κ b).1 = 1) (j : Nat) (v : Int) : Th base κ (w.setCell ⟨b, j, none⟩ (.int .i64 v)) := by
 refine h.put_ ?_;obtain ⟨h0, h | h | h⟩ := h b Om
 ·
  obtain ⟨h1, l, h2⟩ := h;exact ⟨h0, .inl ⟨h1, _, (h2.stored_ j v).1⟩⟩
 ·
  omega
 ·
  omega
theorem Th.setS (h : Th base κ w) (hk : (κ b).1 = 2) (j : Nat) (v : ByteArray) (hv : v.size <= 100) : Th base κ (w.setCell ⟨b, j, none⟩ (.string v)) := by
 refine h.put_ ?_;obtain ⟨h0, h | h | h⟩ := h b Om
 ·
  omega
 ·
  obtain ⟨h1, l, h2, h3⟩ := h;refine ⟨h0, .inr (.inl ⟨h1, _, (h2.stored_ j v).1, fun x hx => ?_⟩)⟩
  rcases List.mem_or_eq_of_mem_set hx with hx | rfl
  ·
   exact h3 x hx
  ·
   exact hv
 ·
  omega
theorem elCells_put (l : List El) (k : Nat) (hk : k < l.length) (p : El) : (elCells l).set (k * 4) (.string p.1) = elCells (l.set k (p.1, (l[k]?.getD zEl).2)) /\ (elCells l).set (k * 4 + 1) (.int .i64 p.2.1) = elCells (l.set k ((l[k]?.getD zEl).1, p.2.1, (l[k]?.getD zEl).2.2)) /\ (elCells l).set (k * 4 + 2) (.int .i64 p.2.2.1) = elCells (l.set k ((l[k]?.getD zEl).1, (l[k]?.getD zEl).2.1, p.2.2.1, (l[k]?.getD zEl).2.2.2)) /\ (elCells l).set (k * 4 + 3) (.int .i64 p.2.2.2) = elCells (l.set k ((l[k]?.getD zEl).1, (l[k]?.getD zEl).2.1, (l[k]?.getD zEl).2.2.1, p.2.2.2)) := by
 induction l generalizing k with
 | nil => simp at hk
 | cons a r ih =>
  cases k with
  | zero => simp [elCells_cons]
  | succ k =>
   have := ih k (by simpa using hk);rw [elCells_cons, show (k + 1) * 4 = k * 4 + 1 + 1 + 1 + 1 by omega, show k * 4 + 1 + 1 + 1 + 1 + 1 = (k * 4 + 1) + 1 + 1 + 1 + 1 by omega, show k * 4 + 1 + 1 + 1 + 1 + 2 = (k * 4 + 2) + 1 + 1 + 1 + 1 by omega, show k * 4 + 1 + 1 + 1 + 1 + 3 = (k * 4 + 3) + 1 + 1 + 1 + 1 by omega];simp only [List.set_cons_succ, List.getElem?_cons_succ, elCells_cons, this, and_self]
theorem Th.up (h : Th base κ w) (hc : Cf base w b k) : Th base (ku κ b k) w := fun x hx => by
 by_cases e : x = b
 ·
  subst e; simp only [ku, if_true]; exact hc
 ·
  have e' : ku κ b k x = κ x := by simp [ku, e]
  rw [e'] at hx ⊢;exact h x hx
end
def SK (t : Nat) (κ : Kf) (A : OA) (n c : Nat) : Prop := (A = none /\ n = 0 /\ c = 0) ∨ ∃ b, A = some ⟨b, 0, none⟩ /\ κ b = (t, n, c)
section
variable {base t s n c : Nat} {w w' : World} {κ κ' : Kf} {A : OA}
theorem SK.kx (h : SK t κ A n c) (hT : Th base κ w) (ht : t ≠ 0) (hx : Kx w.heap.size κ κ') : SK t κ' A n c := by
 rcases h with h | ⟨b, h1, h2⟩
 ·
  exact .inl h
 ·
  exact .inr ⟨b, h1, (hx b (hT.blk (b := b) (by rw [h2]; exact ht)).2).trans h2⟩
theorem SK.ints (h : SK 1 κ A n c) (hT : Th base κ w) : n <= 1000 /\ ∃ l, OwI base w A n c l := by
 rcases h with ⟨rfl, rfl, rfl⟩ | ⟨b, rfl, h2⟩
 ·
  exact ⟨Om, [], OwI.nil_⟩
 ·
  obtain ⟨h0, h | h | h⟩ := hT b (by rw [h2]; simp)
  ·
   rw [h2] at h h0; exact ⟨h0, h.2⟩
  ·
   rw [h2] at h; simp at h
  ·
   rw [h2] at h; simp at h
theorem SK.strs (h : SK 2 κ A n c) (hT : Th base κ w) : n <= 1000 /\ ∃ l, OwT base w A n c l /\ ∀ x ∈ l, x.size <= 100 := by
 rcases h with ⟨rfl, rfl, rfl⟩ | ⟨b, rfl, h2⟩
 ·
  exact ⟨Om, [], OwT.nil_, fun x hx => by cases hx⟩
 ·
  obtain ⟨h0, h | h | h⟩ := hT b (by rw [h2]; simp)
  ·
   rw [h2] at h; simp at h
  ·
   rw [h2] at h h0; exact ⟨h0, h.2⟩
  ·
   rw [h2] at h; simp at h
theorem SK.els (h : SK 3 κ A n c) (hT : Th base κ w) : n <= 1000 /\ ∃ l : List El, Ow 112 4 base w A n c (elCells l) /\ ∀ x ∈ l, x.1.size <= 100 := by
 rcases h with ⟨rfl, rfl, rfl⟩ | ⟨b, rfl, h2⟩
 ·
  exact ⟨Om, [], Ow.nil_, fun x hx => by cases hx⟩
 ·
  obtain ⟨h0, h | h | h⟩ := hT b (by rw [h2]; simp)
  ·
   rw [h2] at h; simp at h
  ·
   rw [h2] at h; simp at h
  ·
   rw [h2] at h h0; exact ⟨h0, h.2⟩
theorem Th.upI {l : List Int} (hT : Th base κ w) (h : OwI base w A n c l) (hn : n <= 1000) (hz : ∀ b, blkOf A = some b -> s <= b) : ∃ κ', Kx s κ κ' /\ Th base κ' w /\ SK 1 κ' A n c /\ ∀ b, blkOf A ≠ some b -> κ' b = κ b := by
 rcases h.2 with ⟨h2, rfl⟩ | ⟨g, cap, cur, hv, hg, r⟩
 ·
  simp at h2; obtain ⟨rfl, rfl⟩ := h2;exact ⟨κ, Kx.refl_ _ _, hT, .inl ⟨rfl, rfl, rfl⟩, fun b _ => rfl⟩
 ·
  simp at hv; obtain ⟨rfl, rfl⟩ := hv;exact ⟨ku κ g (1, n, c), Kx.up_ _ (hz g rfl), hT.up ⟨hn, .inl ⟨rfl, l, h⟩⟩, .inr ⟨g, rfl, by simp [ku]⟩, fun b hb => by simp [ku, show b ≠ g from fun e => hb (by subst e; rfl)]⟩
theorem Th.upS {l : List ByteArray} (hT : Th base κ w) (h : OwT base w A n c l) (hs : ∀ x ∈ l, x.size <= 100) (hn : n <= 1000) (hz : ∀ b, blkOf A = some b -> s <= b) : ∃ κ', Kx s κ κ' /\ Th base κ' w /\ SK 2 κ' A n c /\ ∀ b, blkOf A ≠ some b -> κ' b = κ b := by
 rcases h.2 with ⟨h2, rfl⟩ | ⟨g, cap, cur, hv, hg, r⟩
 ·
  simp at h2; obtain ⟨rfl, rfl⟩ := h2;exact ⟨κ, Kx.refl_ _ _, hT, .inl ⟨rfl, rfl, rfl⟩, fun b _ => rfl⟩
 ·
  simp at hv; obtain ⟨rfl, rfl⟩ := hv;exact ⟨ku κ g (2, n, c), Kx.up_ _ (hz g rfl), hT.up ⟨hn, .inr (.inl ⟨rfl, l, h, hs⟩)⟩, .inr ⟨g, rfl, by simp [ku]⟩, fun b hb => by simp [ku, show b ≠ g from fun e => hb (by subst e; rfl)]⟩
theorem Th.upE {l : List El} (hT : Th base κ w) (h : Ow 112 4 base w A n c (elCells l)) (hs : ∀ x ∈ l, x.1.size <= 100) (hn : n <= 1000) (hz : ∀ b, blkOf A = some b -> s <= b) : ∃ κ', Kx s κ κ' /\ Th base κ' w /\ SK 3 κ' A n c /\ ∀ b, blkOf A ≠ some b -> κ' b = κ b := by
 rcases h.2 with ⟨h2, rfl⟩ | ⟨g, cap, cur, hv, hg, r⟩
 ·
  simp at h2; obtain ⟨rfl, rfl⟩ := h2;exact ⟨κ, Kx.refl_ _ _, hT, .inl ⟨rfl, rfl, rfl⟩, fun b _ => rfl⟩
 ·
  simp at hv; obtain ⟨rfl, rfl⟩ := hv;exact ⟨ku κ g (3, n, c), Kx.up_ _ (hz g rfl), hT.up ⟨hn, .inr (.inr ⟨rfl, l, h, hs⟩)⟩, .inr ⟨g, rfl, by simp [ku]⟩, fun b hb => by simp [ku, show b ≠ g from fun e => hb (by subst e; rfl)]⟩
end
def ItC (κ : Kf) (m : Nat) (xs : List Value) (j : Nat) : Prop := ∃ NA nn nc MA mn mc lt, xs[j * 3]? = some (.slice NA nn nc) /\ xs[j * 3 + 1]? = some (.slice MA mn mc) /\ xs[j * 3 + 2]? = some (.bool lt) /\ SK 2 κ NA nn nc /\ SK 1 κ MA mn mc /\ m <= nn /\ m <= mn
def OL (base : Nat) (κ : Kf) (m : Nat) (w : World) (I : OA) (n c : Nat) : Prop := ∃ xs, Ow 61 3 base w I n c xs /\ (∀ b, blkOf I = some b -> (κ b).1 = 0) /\ ∀ j, j < n -> ItC κ m xs j
section
variable {base m n c s : Nat} {w w' : World} {κ κ' : Kf} {I : OA}
theorem ItC.kx {xs : List Value} {j : Nat} (h : ItC κ m xs j) (hT : Th base κ w) (hx : Kx w.heap.size κ κ') : ItC κ' m xs j := by
 obtain ⟨NA, nn, nc, MA, mn, mc, lt, h1, h2, h3, h4, h5, h6⟩ := h;exact ⟨NA, nn, nc, MA, mn, mc, lt, h1, h2, h3, h4.kx hT Om hx, h5.kx hT Om hx, h6⟩
theorem OL.nil_ : OL base κ m w none 0 0 := ⟨[], Ow.nil_, fun b hb => (by cases hb), fun j hj => absurd hj Om⟩
theorem OL.row {row : Option Nat} (h : OL base κ m w I n c) (hg : w.grownBy w' row) (hne : ∀ b, blkOf I = some b -> some b ≠ row) : OL base κ m w' I n c := by
 obtain ⟨xs, h1, h2, h3⟩ := h;refine ⟨xs, h1.kept hg ?_, h2, h3⟩
 cases hb : blkOf I with
 | none => exact .inl rfl
 | some b => exact .inr (hne b hb)
theorem OL.below (h : OL base κ m w I n c) (hb : Below w.heap.size w w') : OL base κ m w' I n c := h.row (row := none) (grownBy_of_below hb) (fun b _ e => by cases e)
theorem OL.kx (h : OL base κ m w I n c) (hT : Th base κ w) (hx : Kx w.heap.size κ κ') : OL base κ' m w I n c := by
 obtain ⟨xs, h1, h2, h3⟩ := h;exact ⟨xs, h1, fun b hb => by rw [hx b (h1.blk hb).2]; exact h2 b hb, fun j hj => (h3 j hj).kx hT hx⟩
theorem OL.blk (h : OL base κ m w I n c) {b : Nat} (hb : blkOf I = some b) : base <= b /\ b < w.heap.size /\ (κ b).1 = 0 := by
 obtain ⟨xs, h1, h2, h3⟩ := h;exact ⟨(h1.blk hb).1, (h1.blk hb).2, h2 b hb⟩
theorem OL.low {m' : Nat} (h : OL base κ m w I n c) (hm : m' <= m) : OL base κ m' w I n c := by
 obtain ⟨xs, h1, h2, h3⟩ := h;exact ⟨xs, h1, h2, fun j hj => by obtain ⟨NA, nn, nc, MA, mn, mc, lt, q1, q2, q3, q4, q5, q6, q7⟩ := h3 j hj; exact ⟨NA, nn, nc, MA, mn, mc, lt, q1, q2, q3, q4, q5, Om, Om⟩⟩
theorem OL.at_ (h : OL base κ m w I n c) {j : Nat} (hj : j < n) : ∃ b NA nn nc MA mn mc lt, I = some ⟨b, 0, none⟩ /\ b < w.heap.size /\ base <= b /\ (κ b).1 = 0 /\ w.cell? ⟨b, j * 3, none⟩ = some (.slice NA nn nc) /\ w.cell? ⟨b, j * 3 + 1, none⟩ = some (.slice MA mn mc) /\ w.cell? ⟨b, j * 3 + 2, none⟩ = some (.bool lt) /\ (∀ i, w.frozen? ⟨b, i, none⟩ = false) /\ SK 2 κ NA nn nc /\ SK 1 κ MA mn mc /\ m <= nn /\ m <= mn := by
 obtain ⟨xs, h1, h2, h3⟩ := h;obtain ⟨g, rfl, hb, hlt⟩ := h1.form_ Om;obtain ⟨NA, nn, nc, MA, mn, mc, lt, q1, q2, q3, q4, q5, q6, q7⟩ := h3 j hj;refine ⟨g, NA, nn, nc, MA, mn, mc, lt, rfl, hlt, hb, h2 g rfl, ?_, ?_, ?_, fun i => Ow.frozen_ h1 i, q4, q5, q6, q7⟩
 ·
  rw [Ow.cell_ h1 _ Om]; exact q1
 ·
  rw [Ow.cell_ h1 _ Om]; exact q2
 ·
  rw [Ow.cell_ h1 _ Om]; exact q3
theorem OL.cap_ (h : OL base κ m w I n c) : n <= c /\ c <= maxLen := by
 obtain ⟨xs, h1, _⟩ := h; exact h1.cap_
theorem OL.push {xs : List Value} {I' : OA} {c' : Nat} {NA MA : OA} {nn nc mn mc : Nat} {lt : Bool} (h3 : ∀ j, j < n -> ItC κ m xs j) (hl : xs.length = n * 3) (ho : Ow 61 3 base w' I' (n + 1) c' (xs ++ [.slice NA nn nc, .slice MA mn mc, .bool lt])) (hk : ∀ b, blkOf I' = some b -> (κ b).1 = 0) (hN : SK 2 κ NA nn nc) (hM : SK 1 κ MA mn mc) (h6 : m <= nn) (h7 : m <= mn) : OL base κ m w' I' (n + 1) c' := by
 refine ⟨_, ho, hk, fun j hj => ?_⟩;by_cases e : j = n
 ·
  subst e;refine ⟨NA, nn, nc, MA, mn, mc, lt, ?_, ?_, ?_, hN, hM, h6, h7⟩
  ·
   rw [List.getElem?_append_right Om, hl]; simp
  ·
   rw [List.getElem?_append_right Om, hl, show j * 3 + 1 - j * 3 = 1 by omega]; rfl
  ·
   rw [List.getElem?_append_right Om, hl, show j * 3 + 2 - j * 3 = 2 by omega]; rfl
 ·
  obtain ⟨NA', nn', nc', MA', mn', mc', lt', q1, q2, q3, q4⟩ := h3 j Om;refine ⟨NA', nn', nc', MA', mn', mc', lt', ?_, ?_, ?_, q4⟩
  ·
   rw [List.getElem?_append_left Om]; exact q1
  ·
   rw [List.getElem?_append_left Om]; exact q2
  ·
   rw [List.getElem?_append_left Om]; exact q3
theorem OL.setL {b j : Nat} (h : OL base κ m w (some ⟨b, 0, none⟩) n c) (hj : j < n) (v : Bool) : OL base κ m (w.setCell ⟨b, j * 3 + 2, none⟩ (.bool v)) (some ⟨b, 0, none⟩) n c := by
 obtain ⟨xs, h1, h2, h3⟩ := h;have hl := h1.len;refine ⟨_, (Ow.stored_ h1 _ _).1, h2, fun i hi => ?_⟩;obtain ⟨NA', nn', nc', MA', mn', mc', lt', q1, q2, q3, q4⟩ := h3 i hi;by_cases e : i = j
 ·
  subst e;refine ⟨NA', nn', nc', MA', mn', mc', v, ?_, ?_, ?_, q4⟩
  ·
   rw [List.getElem?_set_ne Om]; exact q1
  ·
   rw [List.getElem?_set_ne Om]; exact q2
  ·
   rw [List.getElem?_set_self Om]
 ·
  refine ⟨NA', nn', nc', MA', mn', mc', lt', ?_, ?_, ?_, q4⟩
  ·
   rw [List.getElem?_set_ne Om]; exact q1
  ·
   rw [List.getElem?_set_ne Om]; exact q2
  ·
   rw [List.getElem?_set_ne Om]; exact q3
end
theorem its_of {base m n c : Nat} {w : World} {κ : Kf} {I : OA} (hT : Th base κ w) (h : OL base κ m w I n c) (hn : n <= 1099511627776) : ∃ its : List It, ItsR w I n c its /\ its.length = n := by
 have hex : ∀ j : Nat, ∃ it : It, j < n -> ∃ NA nn nc MA mn mc b, I = some ⟨b, 0, none⟩ /\ b < w.heap.size /\ w.cell? ⟨b, j * 3, none⟩ = some (.slice NA nn nc) /\ w.cell? ⟨b, j * 3 + 1, none⟩ = some (.slice MA mn mc) /\ w.cell? ⟨b, j * 3 + 2, none⟩ = some (.bool it.2.2) /\ RdT w NA nn it.1 /\ RdI w MA mn it.2.1 /\ (nn <= nc /\ nc <= maxLen) /\ (mn <= mc /\ mc <= maxLen) /\ itSmall it := fun j => by
  by_cases hj : j < n
  ·
   obtain ⟨b, NA, nn, nc, MA, mn, mc, lt, h1, h2, _, _, h3, h4, h5, _, h6, h7, _⟩ := h.at_ hj;obtain ⟨hn1, sl, ho, hsz⟩ := h6.strs hT;obtain ⟨hn2, il, ho2⟩ := h7.ints hT;refine ⟨(sl, il, lt), fun _ => ⟨NA, nn, nc, MA, mn, mc, b, h1, h2, h3, h4, h5, ho.rd, ho2.rd, ho.cap_, Ow.cap_ ho2, ?_⟩⟩;exact ⟨by rw [ho.len]; omega, by rw [ho2.len]; omega, fun x hx => by have := hsz x hx; omega⟩
  ·
   exact ⟨zIt, fun h => absurd h hj⟩
 obtain ⟨f, hf⟩ := Classical.axiomOfChoice hex;refine ⟨(List.range n).map f, ⟨⟨by simp, fun hn0 => ?_⟩, hn, h.cap_.1, fun x hx => ?_⟩, by simp⟩
 ·
  obtain ⟨_, _, _, _, _, _, b, hI, hb, _⟩ := hf 0 hn0;refine ⟨b, 0, hI, hb, fun j hj => ?_⟩;obtain ⟨NA, nn, nc, MA, mn, mc, b', hI', _, q1, q2, q3, q4, q5, q6, q7, _⟩ := hf j hj;have e : b' = b := by rw [hI] at hI'; simpa using hI'.symm
  subst e;have eg : ((List.range n).map f)[j]?.getD zIt = f j := by simp [hj]
  rw [eg, Nat.zero_add];exact ⟨NA, nn, nc, MA, mn, mc, q1, q2, q3, q4, q5, q6, q7⟩
 ·
  simp only [List.mem_map, List.mem_range] at hx;obtain ⟨j, hj, rfl⟩ := hx;obtain ⟨NA, nn, nc, MA, mn, mc, b', hI', _, q1, q2, q3, q4, q5, q6, q7, q8⟩ := hf j hj;exact q8
theorem codeR_of {base n c m d : Nat} {w : World} {κ : Kf} {A B : OA} (hT : Th base κ w) (hA : SK 3 κ A n c) (hB : SK 1 κ B m d) : ∃ els lims, CodeR w A n B m els lims /\ els.length = n /\ lims.length = m := by
 obtain ⟨h1, els, h2, h3⟩ := hA.els hT;obtain ⟨h4, lims, h5⟩ := hB.ints hT;have hl : els.length = n := by have := h2.1; rw [elCells_len] at this; omega
 exact ⟨els, lims, ⟨h2.rd, h5.rd, Om, Om, fun x hx => by have := h3 x hx; omega⟩, hl, h5.len⟩
end Go.Proofs.YtlfhhkgleapamaaGreatDoor
