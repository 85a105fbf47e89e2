/- Memory that drawn programmes lie in: each block has a kind, rows of ints, of strings, of elements; items lie in blocks of their own. Appends at any world. Conditions: lengths below 2^40. -/
import Derived.Test.YtlfhhkgleapamaaGreatDoorRDraws
import Derived.Test.YtlfhhkgleapamaaGreatDoorRStrs0
import Derived.Test.YtlfhhkgleapamaaGreatDoorRGoods
import Derived.Test.YtlfhhkgleapamaaGreatDoorRBase0
set_option linter.unusedVariables false
set_option linter.unusedSimpArgs false
set_option maxRecDepth 100000
set_option maxHeartbeats 16000000
namespace Go.Proofs.YtlfhhkgleapamaaGreatDoor
open Go.RowKit Go.ChangeShapes Go.WideShapes Go.ChangeAt
variable {ll : List (List Int)} {l : List Int} {its : List It} {xs : List Value} {b b' base c c' e g hi j k n n' s t : Nat} {A A' I : OA} {w : World}
section
variable {ops : Array Oper} {o : Oper} {a : Act} {K : Act -> World -> Prop} {Q : Exit -> Act -> World -> Prop} {E : Prop}
theorem step_append {W : World} (t e : TypeId) (sz : Nat) (i0 : TypeInfo) (z : Value) (by_ : Nat) (ht : (Tryz.prog).underlying t = some (.slice e)) (hi : (Tryz.prog).info? e = some i0) (hz : i0.zero = some z) (hs1 : i0.size = sz) (hb1 : i0.bytes = by_) (hzs : z.cells.size = sz) (hsz : 0 < sz) (hby : by_ <= 128) (hgd : o.guard = none) (s x : Operand) (ho : o.op = .call { callee := .builtin .append, args := #[s, x], argTypes := #[t, t] })
  (A : OA) (n c : Nat) (xs : List Value) (hs : a.eval s = .slice A n c) (hown : Ow e sz base W A n c xs) (hbase : base <= W.heap.size)
  (B : OA) (m d : Nat) (ys : List Value) (hx : a.eval x = .slice B m d) (hr : Rd sz W B m ys) (h1 : ∀ u ∈ ys, u.oneCell' = true) (hn : n + m <= 1099511627776)
  (h : ∀ A' c' w', Ow e sz base w' A' (n + m) c' (xs ++ ys) -> W.grownBy w' (blkOf A) -> (blkOf A' = blkOf A ∨ blkOf A' = some W.heap.size) -> K (a.put o.dst (.slice A' (n + m) c')) w') :
  if Region.wanted o (yielded ops a.tmps) = true then Oper.wp Tryz.prog o a W K Q else E := by
 have hw : Region.wanted o (yielded ops a.tmps) = true := by simp [Region.wanted, hgd]
 rw [if_pos hw];obtain ⟨v', w', hrun, h2, h3, h4⟩ := run_append_rd (P := Tryz.prog) W base t o.type e i0 z sz by_ ht hi hz hs1 hb1 hzs hsz (.slice A n c) n xs hown B m d ys hr h1 (by simp only [maxLen]; omega) (Nat.le_trans (Nat.mul_le_mul hn hby) Om) hbase;unfold Oper.wp execOp;simp only [ho, resolve, invoke, builtin, Sem.run_bind, Sem.run_pure, Result.andThen_ok, List.map_toArray, List.map_cons, List.map_nil, hs, hx, hrun];rw [ownBlock_slice] at h3 h4
 rcases h2.2 with ⟨hv, h0⟩ | ⟨g', cap, cur, hv, hrest⟩
 ·
  subst hv;rw [ownBlock_slice] at h4;have e : Value.slice none 0 0 = .slice none (n + m) 0 := by rw [h0]
  rw [e] at h2 ⊢;exact h none 0 w' h2 h3 h4
 ·
  subst hv;rw [ownBlock_slice] at h4;exact h _ _ w' h2 h3 h4
end
section
variable {ops : Array Oper} {o : Oper} {a : Act} {K : Act -> World -> Prop} {Q : Exit -> Act -> World -> Prop} {E : Prop} {W : World} (hgd : o.guard = none) (s x : Operand) {A : OA} {n c : Nat} {base : Nat} (hbase : base <= W.heap.size) {B : OA} {m d : Nat} (hx : a.eval x = .slice B m d) (hs : a.eval s = .slice A n c) (hn : n + m <= 1099511627776)
include hgd hbase hx hs hn
theorem app_int (ho : o.op = .call { callee := .builtin .append, args := #[s, x], argTypes := #[25, 25] }) {r : List Int} (hown : OwI base W A n c l) (hr : RdI W B m r)
  (h : ∀ A' c' w', OwI base w' A' (n + m) c' (l ++ r) -> W.grownBy w' (blkOf A) -> (blkOf A' = blkOf A ∨ blkOf A' = some W.heap.size) -> K (a.put o.dst (.slice A' (n + m) c')) w') :
  if Region.wanted o (yielded ops a.tmps) = true then Oper.wp Tryz.prog o a W K Q else E := by
 obtain ⟨i0, hi0, hz0, hz1, hz2⟩ := info_parts int_info;refine step_append 25 3 1 i0 _ _ Tryz.underlying25 hi0 hz0 hz1 hz2 rfl Om Om hgd s x ho A n c _ hs hown hbase B m d _ hx hr (by intro u hu; simp only [List.mem_map] at hu; obtain ⟨z, _, rfl⟩ := hu; rfl) hn (fun A' c' w' h1 => h A' c' w' ?_);rw [<- List.map_append] at h1;exact h1
theorem app_str (ho : o.op = .call { callee := .builtin .append, args := #[s, x], argTypes := #[59, 59] }) {l r : List BA} (hown : OwT base W A n c l) (hr : RdT W B m r)
  (h : ∀ A' c' w', OwT base w' A' (n + m) c' (l ++ r) -> W.grownBy w' (blkOf A) -> (blkOf A' = blkOf A ∨ blkOf A' = some W.heap.size) -> K (a.put o.dst (.slice A' (n + m) c')) w') :
  if Region.wanted o (yielded ops a.tmps) = true then Oper.wp Tryz.prog o a W K Q else E := by
 obtain ⟨i0, hi0, hz0, hz1, hz2⟩ := info_parts string_info;refine step_append 59 9 1 i0 _ _ Tryz.underlying59 hi0 hz0 hz1 hz2 rfl Om Om hgd s x ho A n c _ hs hown hbase B m d _ hx hr (by intro u hu; simp only [List.mem_map] at hu; obtain ⟨z, _, rfl⟩ := hu; rfl) hn (fun A' c' w' h1 => h A' c' w' ?_);rw [<- List.map_append] at h1;exact h1
theorem app_item (ho : o.op = .call { callee := .builtin .append, args := #[s, x], argTypes := #[28, 28] }) {ys : List Value} (hown : Ow 61 3 base W A n c xs) (hr : Rd 3 W B m ys) (h1 : ∀ u ∈ ys, u.oneCell' = true)
  (h : ∀ A' c' w', Ow 61 3 base w' A' (n + m) c' (xs ++ ys) -> W.grownBy w' (blkOf A) -> (blkOf A' = blkOf A ∨ blkOf A' = some W.heap.size) -> K (a.put o.dst (.slice A' (n + m) c')) w') :
  if Region.wanted o (yielded ops a.tmps) = true then Oper.wp Tryz.prog o a W K Q else E := by
 obtain ⟨i0, hi0, hz0, hz1, hz2⟩ := info_parts Item_info;exact step_append 28 61 3 i0 _ _ Tryz.underlying28 hi0 hz0 hz1 hz2 rfl Om Om hgd s x ho A n c _ hs hown hbase B m d _ hx hr h1 hn h
theorem app_el (ho : o.op = .call { callee := .builtin .append, args := #[s, x], argTypes := #[24, 24] }) {l r : List El} (hown : Ow 112 4 base W A n c (elCells l)) (hr : RdEl W B m r)
  (h : ∀ A' c' w', Ow 112 4 base w' A' (n + m) c' (elCells (l ++ r)) -> W.grownBy w' (blkOf A) -> (blkOf A' = blkOf A ∨ blkOf A' = some W.heap.size) -> K (a.put o.dst (.slice A' (n + m) c')) w') :
  if Region.wanted o (yielded ops a.tmps) = true then Oper.wp Tryz.prog o a W K Q else E := by
 obtain ⟨i0, hi0, hz0, hz1, hz2⟩ := info_parts Element_info;refine step_append 24 112 4 i0 _ _ Tryz.underlying24 hi0 hz0 hz1 hz2 rfl Om Om hgd s x ho A n c _ hs hown hbase B m d _ hx hr ?_ hn (fun A' c' w' h1 => h A' c' w' ?_)
 ·
  intro u hu;simp only [elCells, List.mem_flatMap] at hu;obtain ⟨p, _, hp⟩ := hu;simp only [List.mem_cons, List.not_mem_nil, or_false] at hp
  rcases hp with rfl | rfl | rfl | rfl <;> rfl
 ·
  have e : elCells (l ++ r) = elCells l ++ elCells r := by simp [elCells]
  rw [e]; exact h1
end
section
variable {w : World} {b : Nat}
theorem Rd.one_ {vs : List Value} (hl : vs.length = s) (h : ∀ j u, vs[j]? = some u -> w.cell? ⟨b, j, none⟩ = some u) (hb : b < w.heap.size) : Rd s w (some ⟨b, 0, none⟩) 1 vs :=
 ⟨Om, fun _ => ⟨b, 0, rfl, hb, fun j u hu => by rw [Nat.zero_add]; exact h j u hu⟩⟩
end
abbrev Kf := Nat -> Nat × Nat × Nat
def Cf (base : Nat) (w : World) (b : Nat) (k : Nat × Nat × Nat) : Prop := k.2.1 <= 1000 /\
 ((k.1 = 1 /\ ∃ l, OwI base w (some ⟨b, 0, none⟩) k.2.1 k.2.2 l) ∨ (k.1 = 2 /\ ∃ l, OwT base w (some ⟨b, 0, none⟩) k.2.1 k.2.2 l /\ ∀ x ∈ l, x.size <= 100) ∨ (k.1 = 3 /\ ∃ l : List El, Ow 112 4 base w (some ⟨b, 0, none⟩) k.2.1 k.2.2 (elCells l) /\ ∀ x ∈ l, x.1.size <= 100))
def Th (base : Nat) (κ : Kf) (w : World) : Prop := ∀ b, (κ b).1 ≠ 0 -> Cf base w b (κ b)
def k0 : Kf := fun _ => (0, 0, 0)
def ku (κ : Kf) (b : Nat) (k : Nat × Nat × Nat) : Kf := fun x => if x = b then k else κ x
def Kx (s : Nat) (κ κ' : Kf) : Prop := ∀ b, b < s -> κ' b = κ b
theorem Kx.refl_ (s : Nat) (κ : Kf) : Kx s κ κ := fun _ _ => rfl
theorem Kx.trans_ {s' : Nat} {κ κ' κ'' : Kf} (h : Kx s κ κ') (h' : Kx s' κ' κ'') (hs : s <= s') : Kx s κ κ'' := fun b hb => (h' b Om).trans (h b hb)
theorem Kx.mono_ {s' : Nat} {κ κ' : Kf} (h : Kx s κ κ') (hs : s' <= s) : Kx s' κ κ' := fun b hb => h b Om
theorem Kx.up_ {κ : Kf} (k : Nat × Nat × Nat) (hb : s <= b) : Kx s κ (ku κ b k) := fun x hx => by simp [ku, show x ≠ b by omega]
theorem Th.k0_ : Th base k0 w := fun b h => absurd rfl h
section
variable {base b : Nat} {w w' : World} {κ κ' : Kf} {k : Nat × Nat × Nat}
theorem Cf.row {row : Option Nat} (h : Cf base w b k) (hg : w.grownBy w' row) (hb : some b ≠ row) : Cf base w' b k := by
 obtain ⟨h0, h | h | h⟩ := h
 ·
  obtain ⟨h1, l, h2⟩ := h;exact ⟨h0, .inl ⟨h1, l, h2.kept hg (.inr hb)⟩⟩
 ·
  obtain ⟨h1, l, h2, h3⟩ := h;exact ⟨h0, .inr (.inl ⟨h1, l, h2.kept hg (.inr hb), h3⟩)⟩
 ·
  obtain ⟨h1, l, h2, h3⟩ := h;exact ⟨h0, .inr (.inr ⟨h1, l, h2.kept hg (.inr hb), h3⟩)⟩
theorem Cf.blk (h : Cf base w b k) : base <= b /\ b < w.heap.size := by
 obtain ⟨h0, h | h | h⟩ := h
 ·
  obtain ⟨h1, l, h2⟩ := h; exact h2.blk rfl
 ·
  obtain ⟨h1, l, h2, h3⟩ := h; exact h2.blk rfl
 ·
  obtain ⟨h1, l, h2, h3⟩ := h; exact h2.blk rfl
theorem Th.blk (h : Th base κ w) (hb : (κ b).1 ≠ 0) : base <= b /\ b < w.heap.size := (h b hb).blk
theorem Th.new_ (h : Th base κ w) (hb : w.heap.size <= b) : (κ b).1 = 0 := by
 rcases Nat.eq_zero_or_pos (κ b).1 with h0 | h0
 ·
  exact h0
 ·
  have := (h.blk (b := b) Om).2; omega
theorem Th.low_ (h : Th base κ w) (hb : b < base) : (κ b).1 = 0 := by
 rcases Nat.eq_zero_or_pos (κ b).1 with h0 | h0
 ·
  exact h0
 ·
  have := (h.blk (b := b) Om).1; omega
theorem Th.row {row : Option Nat} (h : Th base κ w) (hg : w.grownBy w' row) (hr : ∀ b, row = some b -> (κ b).1 = 0) : Th base κ w' := fun b hb =>
 (h b hb).row hg (fun e => hb (hr b e.symm))
theorem Th.below (h : Th base κ w) (hb : Below w.heap.size w w') : Th base κ w' := h.row (row := none) (grownBy_of_below hb) (fun b e => by cases e)
theorem Th.grow (h : Th base κ w) (hg : w.grownBy w' (some g)) (hk : (κ g).1 = 0) : Th base κ w' := h.row hg (fun b e => by injection e with e; subst e; exact hk)
theorem Th.set0 {v : Value} (h : Th base κ w) (hk : (κ b).1 = 0) : Th base κ (w.setCell ⟨b, j, none⟩ v) := h.grow (gSetM w b j v) hk
theorem Th.put_ {v : Value} (h : Th base κ w) (hc : Cf base (w.setCell ⟨b, j, none⟩ v) b (κ b)) : Th base κ (w.setCell ⟨b, j, none⟩ v) := fun x hx => by
 by_cases e : x = b
 ·
  subst e; exact hc
 ·
  exact (h x hx).row (gSetM w b j v) (fun e' => e (by injection e'))
theorem Th.setI (h : Th base κ w) (hk : (κ b).1 = 1) (j : Nat) (v : Int) : Th base κ (w.setCell ⟨b, j, none⟩ (.int .i64 v)) := by
 refine h.put_ ?_;obtain ⟨h0, h | h | h⟩ := h b Om
 ·
  obtain ⟨h1, l, h2⟩ := h;exact ⟨h0, .inl ⟨h1, _, (h2.stored_ j v).1⟩⟩
 ·
  omega
 ·
  omega
theorem Th.setS (h : Th base κ w) (hk : (κ b).1 = 2) (j : Nat) (v : BA) (hv : v.size <= 100) : Th base κ (w.setCell ⟨b, j, none⟩ (.string v)) := by
 refine h.put_ ?_;obtain ⟨h0, h | h | h⟩ := h b Om
 ·
  omega
 ·
  obtain ⟨h1, l, h2, h3⟩ := h;refine ⟨h0, .inr (.inl ⟨h1, _, (h2.stored_ j v).1, fun x hx => ?_⟩)⟩
  rcases List.mem_or_eq_of_mem_set hx with hx | rfl
  ·
   exact h3 x hx
  ·
   exact hv
 ·
  omega
theorem elCells_put (l : List El) (k : Nat) (hk : k < l.length) (p : El) : (elCells l).set (k * 4) (.string p.1) = elCells (l.set k (p.1, (l[k]?.getD zEl).2)) /\ (elCells l).set (k * 4 + 1) (.int .i64 p.2.1) = elCells (l.set k ((l[k]?.getD zEl).1, p.2.1, (l[k]?.getD zEl).2.2)) /\ (elCells l).set (k * 4 + 2) (.int .i64 p.2.2.1) = elCells (l.set k ((l[k]?.getD zEl).1, (l[k]?.getD zEl).2.1, p.2.2.1, (l[k]?.getD zEl).2.2.2)) /\ (elCells l).set (k * 4 + 3) (.int .i64 p.2.2.2) = elCells (l.set k ((l[k]?.getD zEl).1, (l[k]?.getD zEl).2.1, (l[k]?.getD zEl).2.2.1, p.2.2.2)) := by
 induction l generalizing k with
 | nil => simp at hk
 | cons a r ih =>
  cases k with
  | zero => simp [elCells_cons]
  | succ k =>
   have := ih k (by simpa using hk);rw [elCells_cons, show (k + 1) * 4 = k * 4 + 1 + 1 + 1 + 1 by omega, show k * 4 + 1 + 1 + 1 + 1 + 1 = (k * 4 + 1) + 1 + 1 + 1 + 1 by omega, show k * 4 + 1 + 1 + 1 + 1 + 2 = (k * 4 + 2) + 1 + 1 + 1 + 1 by omega, show k * 4 + 1 + 1 + 1 + 1 + 3 = (k * 4 + 3) + 1 + 1 + 1 + 1 by omega];simp only [List.set_cons_succ, List.getElem?_cons_succ, elCells_cons, this, and_self]
theorem Th.up (h : Th base κ w) (hc : Cf base w b k) : Th base (ku κ b k) w := fun x hx => by
 by_cases e : x = b
 ·
  subst e; simp only [ku, if_true]; exact hc
 ·
  have e' : ku κ b k x = κ x := by simp [ku, e]
  rw [e'] at hx ⊢;exact h x hx
end
def SK (t : Nat) (κ : Kf) (A : OA) (n c : Nat) : Prop := (A = none /\ n = 0 /\ c = 0) ∨ ∃ b, A = some ⟨b, 0, none⟩ /\ κ b = (t, n, c)
section
variable {base t s n c : Nat} {w w' : World} {κ κ' : Kf} {A : OA}
theorem SK.kx (h : SK t κ A n c) (hT : Th base κ w) (ht : t ≠ 0) (hx : Kx w.heap.size κ κ') : SK t κ' A n c := by
 rcases h with h | ⟨b, h1, h2⟩
 ·
  exact .inl h
 ·
  exact .inr ⟨b, h1, (hx b (hT.blk (b := b) (by rw [h2]; exact ht)).2).trans h2⟩
theorem SK.ints (h : SK 1 κ A n c) (hT : Th base κ w) : n <= 1000 /\ ∃ l, OwI base w A n c l := by
 rcases h with ⟨rfl, rfl, rfl⟩ | ⟨b, rfl, h2⟩
 ·
  exact ⟨Om, [], OwI.nil_⟩
 ·
  obtain ⟨h0, h | h | h⟩ := hT b (by rw [h2]; simp)
  ·
   rw [h2] at h h0; exact ⟨h0, h.2⟩
  ·
   rw [h2] at h; simp at h
  ·
   rw [h2] at h; simp at h
theorem SK.strs (h : SK 2 κ A n c) (hT : Th base κ w) : n <= 1000 /\ ∃ l, OwT base w A n c l /\ ∀ x ∈ l, x.size <= 100 := by
 rcases h with ⟨rfl, rfl, rfl⟩ | ⟨b, rfl, h2⟩
 ·
  exact ⟨Om, [], OwT.nil_, fun x hx => by cases hx⟩
 ·
  obtain ⟨h0, h | h | h⟩ := hT b (by rw [h2]; simp)
  ·
   rw [h2] at h; simp at h
  ·
   rw [h2] at h h0; exact ⟨h0, h.2⟩
  ·
   rw [h2] at h; simp at h
theorem SK.els (h : SK 3 κ A n c) (hT : Th base κ w) : n <= 1000 /\ ∃ l : List El, Ow 112 4 base w A n c (elCells l) /\ ∀ x ∈ l, x.1.size <= 100 := by
 rcases h with ⟨rfl, rfl, rfl⟩ | ⟨b, rfl, h2⟩
 ·
  exact ⟨Om, [], Ow.nil_, fun x hx => by cases hx⟩
 ·
  obtain ⟨h0, h | h | h⟩ := hT b (by rw [h2]; simp)
  ·
   rw [h2] at h; simp at h
  ·
   rw [h2] at h; simp at h
  ·
   rw [h2] at h h0; exact ⟨h0, h.2⟩
theorem Th.upI (hT : Th base κ w) (h : OwI base w A n c l) (hn : n <= 1000) (hz : ∀ b, blkOf A = some b -> s <= b) : ∃ κ', Kx s κ κ' /\ Th base κ' w /\ SK 1 κ' A n c /\ ∀ b, blkOf A ≠ some b -> κ' b = κ b := by
 rcases h.2 with ⟨h2, rfl⟩ | ⟨g, cap, cur, hv, hg, r⟩
 ·
  simp at h2; obtain ⟨rfl, rfl⟩ := h2;exact ⟨κ, Kx.refl_ _ _, hT, .inl ⟨rfl, rfl, rfl⟩, fun b _ => rfl⟩
 ·
  simp at hv; obtain ⟨rfl, rfl⟩ := hv;exact ⟨ku κ g (1, n, c), Kx.up_ _ (hz g rfl), hT.up ⟨hn, .inl ⟨rfl, l, h⟩⟩, .inr ⟨g, rfl, by simp [ku]⟩, fun b hb => by simp [ku, show b ≠ g from fun e => hb (by subst e; rfl)]⟩
theorem Th.upS {l : List BA} (hT : Th base κ w) (h : OwT base w A n c l) (hs : ∀ x ∈ l, x.size <= 100) (hn : n <= 1000) (hz : ∀ b, blkOf A = some b -> s <= b) : ∃ κ', Kx s κ κ' /\ Th base κ' w /\ SK 2 κ' A n c /\ ∀ b, blkOf A ≠ some b -> κ' b = κ b := by
 rcases h.2 with ⟨h2, rfl⟩ | ⟨g, cap, cur, hv, hg, r⟩
 ·
  simp at h2; obtain ⟨rfl, rfl⟩ := h2;exact ⟨κ, Kx.refl_ _ _, hT, .inl ⟨rfl, rfl, rfl⟩, fun b _ => rfl⟩
 ·
  simp at hv; obtain ⟨rfl, rfl⟩ := hv;exact ⟨ku κ g (2, n, c), Kx.up_ _ (hz g rfl), hT.up ⟨hn, .inr (.inl ⟨rfl, l, h, hs⟩)⟩, .inr ⟨g, rfl, by simp [ku]⟩, fun b hb => by simp [ku, show b ≠ g from fun e => hb (by subst e; rfl)]⟩
theorem Th.upE {l : List El} (hT : Th base κ w) (h : Ow 112 4 base w A n c (elCells l)) (hs : ∀ x ∈ l, x.1.size <= 100) (hn : n <= 1000) (hz : ∀ b, blkOf A = some b -> s <= b) : ∃ κ', Kx s κ κ' /\ Th base κ' w /\ SK 3 κ' A n c /\ ∀ b, blkOf A ≠ some b -> κ' b = κ b := by
 rcases h.2 with ⟨h2, rfl⟩ | ⟨g, cap, cur, hv, hg, r⟩
 ·
  simp at h2; obtain ⟨rfl, rfl⟩ := h2;exact ⟨κ, Kx.refl_ _ _, hT, .inl ⟨rfl, rfl, rfl⟩, fun b _ => rfl⟩
 ·
  simp at hv; obtain ⟨rfl, rfl⟩ := hv;exact ⟨ku κ g (3, n, c), Kx.up_ _ (hz g rfl), hT.up ⟨hn, .inr (.inr ⟨rfl, l, h, hs⟩)⟩, .inr ⟨g, rfl, by simp [ku]⟩, fun b hb => by simp [ku, show b ≠ g from fun e => hb (by subst e; rfl)]⟩
end
def ItC (κ : Kf) (m : Nat) (xs : List Value) (j : Nat) : Prop := ∃ NA nn nc MA mn mc lt, xs[j * 3]? = some (.slice NA nn nc) /\ xs[j * 3 + 1]? = some (.slice MA mn mc) /\ xs[j * 3 + 2]? = some (.bool lt) /\ SK 2 κ NA nn nc /\ SK 1 κ MA mn mc /\ m <= nn /\ m <= mn
def OL (base : Nat) (κ : Kf) (m : Nat) (w : World) (I : OA) (n c : Nat) : Prop := ∃ xs, Ow 61 3 base w I n c xs /\ (∀ b, blkOf I = some b -> (κ b).1 = 0) /\ ∀ j, j < n -> ItC κ m xs j
section
variable {base m n c s : Nat} {w w' : World} {κ κ' : Kf} {I : OA}
theorem ItC.kx (h : ItC κ m xs j) (hT : Th base κ w) (hx : Kx w.heap.size κ κ') : ItC κ' m xs j := by
 obtain ⟨NA, nn, nc, MA, mn, mc, lt, h1, h2, h3, h4, h5, h6⟩ := h;exact ⟨NA, nn, nc, MA, mn, mc, lt, h1, h2, h3, h4.kx hT Om hx, h5.kx hT Om hx, h6⟩
theorem OL.nil_ : OL base κ m w none 0 0 := ⟨[], Ow.nil_, fun b hb => (by cases hb), fun j hj => absurd hj Om⟩
theorem OL.row {row : Option Nat} (h : OL base κ m w I n c) (hg : w.grownBy w' row) (hne : ∀ b, blkOf I = some b -> some b ≠ row) : OL base κ m w' I n c := by
 obtain ⟨xs, h1, h2, h3⟩ := h;refine ⟨xs, h1.kept hg ?_, h2, h3⟩
 cases hb : blkOf I with
 | none => exact .inl rfl
 | some b => exact .inr (hne b hb)
theorem OL.below (h : OL base κ m w I n c) (hb : Below w.heap.size w w') : OL base κ m w' I n c := h.row (row := none) (grownBy_of_below hb) (fun b _ e => by cases e)
theorem OL.kx (h : OL base κ m w I n c) (hT : Th base κ w) (hx : Kx w.heap.size κ κ') : OL base κ' m w I n c := by
 obtain ⟨xs, h1, h2, h3⟩ := h;exact ⟨xs, h1, fun b hb => by rw [hx b (h1.blk hb).2]; exact h2 b hb, fun j hj => (h3 j hj).kx hT hx⟩
theorem OL.blk (h : OL base κ m w I n c) (hb : blkOf I = some b) : base <= b /\ b < w.heap.size /\ (κ b).1 = 0 := by
 obtain ⟨xs, h1, h2, h3⟩ := h;exact ⟨(h1.blk hb).1, (h1.blk hb).2, h2 b hb⟩
theorem OL.low {m' : Nat} (h : OL base κ m w I n c) (hm : m' <= m) : OL base κ m' w I n c := by
 obtain ⟨xs, h1, h2, h3⟩ := h;exact ⟨xs, h1, h2, fun j hj => by obtain ⟨NA, nn, nc, MA, mn, mc, lt, q1, q2, q3, q4, q5, q6, q7⟩ := h3 j hj; exact ⟨NA, nn, nc, MA, mn, mc, lt, q1, q2, q3, q4, q5, Om, Om⟩⟩
theorem OL.at_ (h : OL base κ m w I n c) (hj : j < n) : ∃ b NA nn nc MA mn mc lt, I = some ⟨b, 0, none⟩ /\ b < w.heap.size /\ base <= b /\ (κ b).1 = 0 /\ w.cell? ⟨b, j * 3, none⟩ = some (.slice NA nn nc) /\ w.cell? ⟨b, j * 3 + 1, none⟩ = some (.slice MA mn mc) /\ w.cell? ⟨b, j * 3 + 2, none⟩ = some (.bool lt) /\ (∀ i, w.frozen? ⟨b, i, none⟩ = false) /\ SK 2 κ NA nn nc /\ SK 1 κ MA mn mc /\ m <= nn /\ m <= mn := by
 obtain ⟨xs, h1, h2, h3⟩ := h;obtain ⟨g, rfl, hb, hlt⟩ := h1.form_ Om;obtain ⟨NA, nn, nc, MA, mn, mc, lt, q1, q2, q3, q4, q5, q6, q7⟩ := h3 j hj;refine ⟨g, NA, nn, nc, MA, mn, mc, lt, rfl, hlt, hb, h2 g rfl, ?_, ?_, ?_, fun i => Ow.frozen_ h1 i, q4, q5, q6, q7⟩
 ·
  rw [Ow.cell_ h1 _ Om]; exact q1
 ·
  rw [Ow.cell_ h1 _ Om]; exact q2
 ·
  rw [Ow.cell_ h1 _ Om]; exact q3
theorem OL.cap_ (h : OL base κ m w I n c) : n <= c /\ c <= maxLen := by
 obtain ⟨xs, h1, _⟩ := h; exact h1.cap_
theorem OL.push {I' : OA} {NA MA : OA} {nn nc mn mc : Nat} {lt : Bool} (h3 : ∀ j, j < n -> ItC κ m xs j) (hl : xs.length = n * 3) (ho : Ow 61 3 base w' I' (n + 1) c' (xs ++ [.slice NA nn nc, .slice MA mn mc, .bool lt])) (hk : ∀ b, blkOf I' = some b -> (κ b).1 = 0) (hN : SK 2 κ NA nn nc) (hM : SK 1 κ MA mn mc) (h6 : m <= nn) (h7 : m <= mn) : OL base κ m w' I' (n + 1) c' := by
 refine ⟨_, ho, hk, fun j hj => ?_⟩;by_cases e : j = n
 ·
  subst e;refine ⟨NA, nn, nc, MA, mn, mc, lt, ?_, ?_, ?_, hN, hM, h6, h7⟩
  ·
   rw [List.getElem?_append_right Om, hl]; simp
  ·
   rw [List.getElem?_append_right Om, hl, show j * 3 + 1 - j * 3 = 1 by omega]; rfl
  ·
   rw [List.getElem?_append_right Om, hl, show j * 3 + 2 - j * 3 = 2 by omega]; rfl
 ·
  obtain ⟨NA', nn', nc', MA', mn', mc', lt', q1, q2, q3, q4⟩ := h3 j Om;refine ⟨NA', nn', nc', MA', mn', mc', lt', ?_, ?_, ?_, q4⟩
  ·
   rw [List.getElem?_append_left Om]; exact q1
  ·
   rw [List.getElem?_append_left Om]; exact q2
  ·
   rw [List.getElem?_append_left Om]; exact q3
theorem OL.setL (h : OL base κ m w (some ⟨b, 0, none⟩) n c) (hj : j < n) (v : Bool) : OL base κ m (w.setCell ⟨b, j * 3 + 2, none⟩ (.bool v)) (some ⟨b, 0, none⟩) n c := by
 obtain ⟨xs, h1, h2, h3⟩ := h;have hl := h1.len;refine ⟨_, (Ow.stored_ h1 _ _).1, h2, fun i hi => ?_⟩;obtain ⟨NA', nn', nc', MA', mn', mc', lt', q1, q2, q3, q4⟩ := h3 i hi;by_cases e : i = j
 ·
  subst e;refine ⟨NA', nn', nc', MA', mn', mc', v, ?_, ?_, ?_, q4⟩
  ·
   rw [List.getElem?_set_ne Om]; exact q1
  ·
   rw [List.getElem?_set_ne Om]; exact q2
  ·
   rw [List.getElem?_set_self Om]
 ·
  refine ⟨NA', nn', nc', MA', mn', mc', lt', ?_, ?_, ?_, q4⟩
  ·
   rw [List.getElem?_set_ne Om]; exact q1
  ·
   rw [List.getElem?_set_ne Om]; exact q2
  ·
   rw [List.getElem?_set_ne Om]; exact q3
end
theorem its_of {m : Nat} {κ : Kf} (hT : Th base κ w) (h : OL base κ m w I n c) (hn : n <= 1099511627776) : ∃ its : List It, ItsR w I n c its /\ its.length = n := by
 have hex : ∀ j : Nat, ∃ it : It, j < n -> ∃ NA nn nc MA mn mc b, I = some ⟨b, 0, none⟩ /\ b < w.heap.size /\ w.cell? ⟨b, j * 3, none⟩ = some (.slice NA nn nc) /\ w.cell? ⟨b, j * 3 + 1, none⟩ = some (.slice MA mn mc) /\ w.cell? ⟨b, j * 3 + 2, none⟩ = some (.bool it.2.2) /\ RdT w NA nn it.1 /\ RdI w MA mn it.2.1 /\ (nn <= nc /\ nc <= maxLen) /\ (mn <= mc /\ mc <= maxLen) /\ itSmall it := fun j => by
  by_cases hj : j < n
  ·
   obtain ⟨b, NA, nn, nc, MA, mn, mc, lt, h1, h2, _, _, h3, h4, h5, _, h6, h7, _⟩ := h.at_ hj;obtain ⟨hn1, sl, ho, hsz⟩ := h6.strs hT;obtain ⟨hn2, il, ho2⟩ := h7.ints hT;refine ⟨(sl, il, lt), fun _ => ⟨NA, nn, nc, MA, mn, mc, b, h1, h2, h3, h4, h5, ho.rd, ho2.rd, ho.cap_, Ow.cap_ ho2, ?_⟩⟩;exact ⟨by rw [ho.len]; omega, by rw [ho2.len]; omega, fun x hx => by have := hsz x hx; omega⟩
  ·
   exact ⟨zIt, fun h => absurd h hj⟩
 obtain ⟨f, hf⟩ := Classical.axiomOfChoice hex;refine ⟨(List.range n).map f, ⟨⟨by simp, fun hn0 => ?_⟩, hn, h.cap_.1, fun x hx => ?_⟩, by simp⟩
 ·
  obtain ⟨_, _, _, _, _, _, b, hI, hb, _⟩ := hf 0 hn0;refine ⟨b, 0, hI, hb, fun j hj => ?_⟩;obtain ⟨NA, nn, nc, MA, mn, mc, b', hI', _, q1, q2, q3, q4, q5, q6, q7, _⟩ := hf j hj;have e : b' = b := by rw [hI] at hI'; simpa using hI'.symm
  subst e;have eg : ((List.range n).map f)[j]?.getD zIt = f j := by simp [hj]
  rw [eg, Nat.zero_add];exact ⟨NA, nn, nc, MA, mn, mc, q1, q2, q3, q4, q5, q6, q7⟩
 ·
  simp only [List.mem_map, List.mem_range] at hx;obtain ⟨j, hj, rfl⟩ := hx;obtain ⟨NA, nn, nc, MA, mn, mc, b', hI', _, q1, q2, q3, q4, q5, q6, q7, q8⟩ := hf j hj;exact q8
theorem codeR_of {m d : Nat} {κ : Kf} {B : OA} (hT : Th base κ w) (hA : SK 3 κ A n c) (hB : SK 1 κ B m d) : ∃ els lims, CodeR w A n B m els lims /\ els.length = n /\ lims.length = m := by
 obtain ⟨h1, els, h2, h3⟩ := hA.els hT;obtain ⟨h4, lims, h5⟩ := hB.ints hT;have hl : els.length = n := by have := h2.1; rw [elCells_len] at this; omega
 exact ⟨els, lims, ⟨h2.rd, h5.rd, Om, Om, fun x hx => by have := h3 x hx; omega⟩, hl, h5.len⟩
structure Rw where
 e : Nat
 s : Nat
 A : OA
 n : Nat
 c : Nat
 xs : List Value
def Rw.own (r : Rw) (b : Nat) (w : World) : Prop := Ow r.e r.s b w r.A r.n r.c r.xs
def rowN : Rw := ⟨0, 1, none, 0, 0, []⟩
def rowT (A : OA) (n c : Nat) (l : List BA) : Rw := ⟨9, 1, A, n, c, l.map Value.string⟩
def rowI (A : OA) (n c : Nat) (l : List Int) : Rw := ⟨3, 1, A, n, c, l.map (Value.int .i64)⟩
abbrev Fam := Nat × Nat -> Rw
def famN : Fam := fun _ => rowN
def upd (R : Fam) (j : Nat × Nat) (r : Rw) : Fam := fun i => if i = j then r else R i
theorem upd_same (R : Fam) (j : Nat × Nat) (r : Rw) : upd R j r j = r := by simp [upd]
theorem upd_ne (R : Fam) {i j : Nat × Nat} (r : Rw) (h : i ≠ j) : upd R j r i = R i := by simp [upd, h]
def Fo (b hi : Nat) (w : World) (R : Fam) : Prop :=
 (∀ j, (R j).own b w) /\ (∀ i j, i ≠ j -> blkOf (R i).A = none ∨ blkOf (R i).A ≠ blkOf (R j).A) /\ ∀ j z, blkOf (R j).A = some z -> z < hi
theorem Fo.nil_ : Fo b hi w famN := ⟨fun _ => Ow.nil_, fun _ _ _ => .inl rfl, fun _ z hz => by cases hz⟩
section
variable {b hi hi' : Nat} {w w' : World} {R : Fam} {j : Nat × Nat} {r : Rw}
theorem Fo.below (h : Fo b hi w R) (hb : Below w.heap.size w w') : Fo b hi w' R := ⟨fun j => (h.1 j).below hb, h.2.1, h.2.2⟩
theorem Fo.mono (h : Fo b hi w R) (hb : b' <= b) (hh : hi <= hi') : Fo b' hi' w R := ⟨fun j => (h.1 j).mono hb, h.2.1, fun j z hz => by have := h.2.2 j z hz; omega⟩
theorem Fo.put (h : Fo b hi w R) (hg : w.grownBy w' (blkOf (R j).A)) (ho : r.own b w') (hd : blkOf r.A = blkOf (R j).A ∨ blkOf r.A = none ∨ ∃ g, blkOf r.A = some g /\ hi <= g) (hh : hi <= hi') (hz : ∀ z, blkOf r.A = some z -> z < hi') : Fo b hi' w' (upd R j r) := by
 have hfree : ∀ i, i ≠ j -> blkOf r.A = none ∨ blkOf r.A ≠ blkOf (R i).A := fun i hi => by
  rcases hd with hd | hd | ⟨g, hd, hg⟩
  ·
   rw [hd]; exact h.2.1 j i (fun e => hi e.symm)
  ·
   exact .inl hd
  ·
   refine .inr fun e => ?_
   rw [hd] at e;have := h.2.2 i g e.symm;omega
 refine ⟨fun i => ?_, fun i k hik => ?_, fun i z hi => ?_⟩
 ·
  by_cases e : i = j
  ·
   subst e; rw [upd_same]; exact ho
  ·
   rw [upd_ne R r e]; exact (h.1 i).kept hg (h.2.1 i j e)
 ·
  by_cases e : i = j
  ·
   subst e;rw [upd_same, upd_ne R r (fun e => hik e.symm)];exact hfree k (fun e => hik e.symm)
  ·
   rw [upd_ne R r e];by_cases e2 : k = j
   ·
    subst e2;rw [upd_same]
    rcases hfree i e with hn | hn
    ·
     rw [hn]
     cases blkOf (R i).A with
     | none => exact .inl rfl
     | some z => exact .inr (by simp)
    ·
     exact .inr fun e3 => hn e3.symm
   ·
    rw [upd_ne R r e2]; exact h.2.1 i k hik
 ·
  by_cases e : i = j
  ·
   subst e; rw [upd_same] at hi; exact hz z hi
  ·
   rw [upd_ne R r e] at hi; have := h.2.2 i z hi; omega
theorem Fo.add (h : Fo b hi w R) (hn : R j = rowN) (hb : Below w.heap.size w w') (hw : hi <= w.heap.size) (hb' : hi <= b') (hbb : b <= b') (ho : r.own b' w') (hh : w'.heap.size <= hi') : Fo b hi' w' (upd R j r) := by
 refine h.put (by rw [hn]; exact grownBy_of_below hb) (Ow.mono ho hbb) ?_ (by have := hb.size; omega) (fun z hz => ?_)
 ·
  cases hr : blkOf r.A with
  | none => exact .inr (.inl rfl)
  | some z => exact .inr (.inr ⟨z, rfl, Nat.le_trans hb' (Ow.blk ho hr).1⟩)
 ·
  have := (Ow.blk ho hz).2; omega
theorem Fo.merge {mid : Nat} {R2 : Fam} (p : Nat × Nat -> Bool) (h : Fo b mid w R) (h2 : Fo mid hi w R2) (hb : b <= mid) (hm : mid <= hi) : Fo b hi w (fun i => if p i then R i else R2 i) := by
 refine ⟨fun j => ?_, fun i j hij => ?_, fun j z hz => ?_⟩
 ·
  by_cases e : p j = true
  ·
   simp only [if_pos e]; exact h.1 j
  ·
   simp only [if_neg e]; exact (h2.1 j).mono hb
 ·
  by_cases e : p i = true
  ·
   by_cases e2 : p j = true
   ·
    simp only [if_pos e, if_pos e2]; exact h.2.1 i j hij
   ·
    simp only [if_pos e, if_neg e2]
    cases hz : blkOf (R i).A with
    | none => exact .inl rfl
    | some z => exact .inr fun e3 => by have := h.2.2 i z hz; have := (Ow.blk (h2.1 j) e3.symm).1; omega
  ·
   by_cases e2 : p j = true
   ·
    simp only [if_neg e, if_pos e2]
    cases hz : blkOf (R2 i).A with
    | none => exact .inl rfl
    | some z => exact .inr fun e3 => by have := h.2.2 j z e3.symm; have := (Ow.blk (h2.1 i) hz).1; omega
   ·
    simp only [if_neg e, if_neg e2]; exact h2.2.1 i j hij
 ·
  by_cases e : p j = true
  ·
   simp only [if_pos e] at hz; have := h.2.2 j z hz; omega
  ·
   simp only [if_neg e] at hz; exact h2.2.2 j z hz
end
/-! Items -/
def ItF (R : Fam) (I : OA) (n c : Nat) (its : List It) : Prop :=
 its.length = n /\ (∃ C : List C3, C.length = n /\ R (0, 0) = ⟨61, 3, I, n, c, cells3 C⟩ /\ ∀ j, j < n -> ∃ NA nn nc MA mn mc, C[j]?.getD nil3 = (.slice NA nn nc, .slice MA mn mc, .bool (its[j]?.getD zIt).2.2) /\ R (3, j) = rowT NA nn nc (its[j]?.getD zIt).1 /\ R (4, j) = rowI MA mn mc (its[j]?.getD zIt).2.1) /\
  ∀ j, n <= j -> R (3, j) = rowN /\ R (4, j) = rowN
theorem cells3_snoc (C : List C3) (x : C3) : cells3 (C ++ [x]) = cells3 C ++ [x.1, x.2.1, x.2.2] := by
 induction C with
 | nil => rfl
 | cons a r ih => rw [List.cons_append, cells3_cons, cells3_cons, ih]; rfl
theorem ItF.push {R : Fam} (h : ItF R I n c its) (it : It) (NA : OA) (nn nc : Nat) (MA : OA) (mn mc : Nat) :
  ∃ xs, R (0, 0) = ⟨61, 3, I, n, c, xs⟩ /\ ∀ (I' : OA) (c' : Nat), ItF (upd (upd (upd R (3, n) (rowT NA nn nc it.1)) (4, n) (rowI MA mn mc it.2.1)) (0, 0) ⟨61, 3, I', n + 1, c', xs ++ [.slice NA nn nc, .slice MA mn mc, .bool it.2.2]⟩) I' (n + 1) c' (its ++ [it]) := by
 obtain ⟨hl, ⟨C, hC, h0, hj⟩, hz⟩ := h;refine ⟨_, h0, fun I' c' => ⟨by simp [hl], ⟨C ++ [(.slice NA nn nc, .slice MA mn mc, .bool it.2.2)], by simp [hC], by rw [upd_same, cells3_snoc], fun j hlt => ?_⟩, fun j hle => ?_⟩⟩
 ·
  by_cases e : j = n
  ·
   subst e;have e1 : (its ++ [it])[j]?.getD zIt = it := by rw [<- hl]; simp
   have e2 : (C ++ [((.slice NA nn nc, .slice MA mn mc, .bool it.2.2) : C3)])[j]?.getD nil3 = (.slice NA nn nc, .slice MA mn mc, .bool it.2.2) := by rw [<- hC]; simp
   rw [e1, e2];exact ⟨NA, nn, nc, MA, mn, mc, rfl, by simp [upd], by simp [upd]⟩
  ·
   have e1 : (its ++ [it])[j]?.getD zIt = its[j]?.getD zIt := by rw [List.getElem?_append_left Om]
   have e2 : (C ++ [((.slice NA nn nc, .slice MA mn mc, .bool it.2.2) : C3)])[j]?.getD nil3 = C[j]?.getD nil3 := by rw [List.getElem?_append_left Om]
   rw [e1, e2];obtain ⟨NA', nn', nc', MA', mn', mc', q1, q2, q3⟩ := hj j Om;exact ⟨NA', nn', nc', MA', mn', mc', q1, by simp [upd, e, q2], by simp [upd, e, q3]⟩
 ·
  obtain ⟨q1, q2⟩ := hz j Om;have e : j ≠ n := Om;exact ⟨by simp [upd, e, q1], by simp [upd, e, q2]⟩
theorem ItF.rd {R : Fam} (h : ItF R I n c its) (hF : Fo b hi w R) : RdIt w I n its := by
 obtain ⟨hl, ⟨C, hC, h0, hj⟩, hz⟩ := h;refine ⟨hl, fun hn => ?_⟩;have ho := hF.1 (0, 0);rw [h0] at ho;have ho : Ow 61 3 b w I n c (cells3 C) := ho;obtain ⟨g, rfl, hb, hg⟩ := ho.form_ hn;refine ⟨g, 0, rfl, hg, fun j hlt => ?_⟩;obtain ⟨NA, nn, nc, MA, mn, mc, e, q1, q2⟩ := hj j hlt;obtain ⟨g0, g1, g2⟩ := cells3_get C j Om;rw [e] at g0 g1 g2;have o1 := hF.1 (3, j);rw [q1] at o1;have o1 : OwT b w NA nn nc (its[j]?.getD zIt).1 := o1;have o2 := hF.1 (4, j);rw [q2] at o2;have o2 : OwI b w MA mn mc (its[j]?.getD zIt).2.1 := o2;refine ⟨NA, nn, nc, MA, mn, mc, ?_, ?_, ?_, o1.rd, o2.rd, o1.cap_, Ow.cap_ o2⟩
 ·
  rw [Nat.zero_add, Ow.cell_ ho _ Om]; exact g0
 ·
  rw [Nat.zero_add, Ow.cell_ ho _ Om]; exact g1
 ·
  rw [Nat.zero_add, Ow.cell_ ho _ Om]; exact g2
theorem ItF.cap {R : Fam} (h : ItF R I n c its) (hF : Fo b hi w R) : n <= c := by
 obtain ⟨hl, ⟨C, hC, h0, hj⟩, hz⟩ := h;have ho := hF.1 (0, 0);rw [h0] at ho;exact (Ow.cap_ ho).1
/-! Tables of rows -/
def TbF (t k : Nat) (R : Fam) (A : OA) (n c : Nat) (ll : List (List Int)) : Prop :=
 ll.length = n /\ (∃ (B : Nat -> OA) (m d : Nat -> Nat), R (t, 0) = ⟨25, 1, A, n, c, (List.range n).map fun j => .slice (B j) (m j) (d j)⟩ /\ ∀ j, j < n -> R (k, j) = rowI (B j) (m j) (d j) (ll[j]?.getD [])) /\ ∀ j, n <= j -> R (k, j) = rowN
theorem TbF.push (htk : t ≠ k) {R : Fam} (h : TbF t k R A n c ll) (l : List Int) (B0 : OA) (m0 d0 : Nat) :
  ∃ xs, R (t, 0) = ⟨25, 1, A, n, c, xs⟩ /\ ∀ (A' : OA) (c' : Nat), TbF t k (upd (upd R (k, n) (rowI B0 m0 d0 l)) (t, 0) ⟨25, 1, A', n + 1, c', xs ++ [.slice B0 m0 d0]⟩) A' (n + 1) c' (ll ++ [l]) := by
 obtain ⟨hl, ⟨B, m, d, h0, hj⟩, hz⟩ := h;have hkt : k ≠ t := fun e => htk e.symm
 refine ⟨_, h0, fun A' c' => ⟨by simp [hl], ⟨fun j => if j = n then B0 else B j, fun j => if j = n then m0 else m j, fun j => if j = n then d0 else d j, ?_, fun j hlt => ?_⟩, fun j hle => ?_⟩⟩
 ·
  rw [upd_same, List.range_succ, List.map_append]
  congr 2
  ·
   refine List.map_congr_left fun j hj => ?_
   have : j ≠ n := by simp at hj; omega
   simp [this]
  ·
   simp
 ·
  by_cases e : j = n
  ·
   subst e;have e1 : (ll ++ [l])[j]?.getD [] = l := by rw [<- hl]; simp
   rw [e1];simp [upd, hkt]
  ·
   have e1 : (ll ++ [l])[j]?.getD [] = ll[j]?.getD [] := by rw [List.getElem?_append_left Om]
   rw [e1];simp [upd, hkt, e, hj j Om]
 ·
  have e : j ≠ n := Om;simp [upd, hkt, e, hz j Om]
theorem TbF.rd {R : Fam} (h : TbF t k R A n c ll) (hF : Fo b hi w R) : RdM w A n ll := by
 obtain ⟨hl, ⟨B, m, d, h0, hj⟩, hz⟩ := h;refine ⟨hl, fun hn => ?_⟩;have ho := hF.1 (t, 0);rw [h0] at ho;have ho : Ow 25 1 b w A n c ((List.range n).map fun j => .slice (B j) (m j) (d j)) := ho;obtain ⟨g, rfl, hb, hg⟩ := ho.form_ hn;refine ⟨g, 0, rfl, hg, fun j hlt => ?_⟩;have o1 := hF.1 (k, j);rw [hj j hlt] at o1;have o1 : OwI b w (B j) (m j) (d j) (ll[j]?.getD []) := o1;refine ⟨B j, m j, d j, ?_, o1.rd, (Ow.cap_ o1).1, (Ow.cap_ o1).2⟩;rw [Nat.zero_add, Ow.cell_ ho _ Om];simp [hlt]
theorem ItF.of {R R' : Fam} (h : ItF R I n c its) (h0 : R' (0, 0) = R (0, 0)) (h1 : ∀ j, R' (3, j) = R (3, j) /\ R' (4, j) = R (4, j)) : ItF R' I n c its := by
 obtain ⟨hl, ⟨C, hC, h2, hj⟩, hz⟩ := h;exact ⟨hl, ⟨C, hC, h0.trans h2, fun j hlt => by obtain ⟨NA, nn, nc, MA, mn, mc, q1, q2, q3⟩ := hj j hlt; exact ⟨NA, nn, nc, MA, mn, mc, q1, (h1 j).1.trans q2, (h1 j).2.trans q3⟩⟩, fun j hle => ⟨(h1 j).1.trans (hz j hle).1, (h1 j).2.trans (hz j hle).2⟩⟩
theorem TbF.of {R R' : Fam} (h : TbF t k R A n c ll) (h0 : R' (t, 0) = R (t, 0)) (h1 : ∀ j, R' (k, j) = R (k, j)) : TbF t k R' A n c ll := by
 obtain ⟨hl, ⟨B, m, d, h2, hj⟩, hz⟩ := h;exact ⟨hl, ⟨B, m, d, h0.trans h2, fun j hlt => (h1 j).trans (hj j hlt)⟩, fun j hle => (h1 j).trans (hz j hle)⟩
section
variable {b hi : Nat} {w w' : World} {R : Fam} {j : Nat × Nat} {r : Rw}
theorem Fo.wrote (h : Fo b hi w R) (hg : w.grownBy w' (blkOf (R j).A)) (ho : r.own b w') (hA : r.A = (R j).A) : Fo b hi w' (upd R j r) /\ Mid b hi w w' :=
 ⟨h.put hg ho (.inl (by rw [hA])) (Nat.le_refl _) (fun z hz => h.2.2 j z (by rw [<- hA]; exact hz)), Mid.of_grown hg fun k hk => ⟨(Ow.blk (h.1 j) hk).1, h.2.2 j k hk⟩⟩
theorem Fo.ownT {l : List BA} (h : Fo b hi w R) (e : R j = rowT A n c l) : OwT b w A n c l := by have := h.1 j; rw [e] at this; exact this
theorem Fo.ownI (h : Fo b hi w R) (e : R j = rowI A n c l) : OwI b w A n c l := by have := h.1 j; rw [e] at this; exact this
end
/-! What is marked -/
def itWt (it : It) : Int := it.1.length + it.2.1.length + 1
section
variable {ops : Array Oper} {rest : List Oper} {o : Oper} {a : Act} {Q : Exit -> Act -> World -> Prop}
theorem wpl_push_item (R W : World) (v0 v1 v2 : Value) (hv : v0.oneCell' = true /\ v1.oneCell' = true /\ v2.oneCell' = true) (gx : Nat) (hgx : gx = W.heap.size) (hgd : o.guard = none) (s x : Operand) (ho : o.op = .call { callee := .builtin .append, args := #[s, x], argTypes := #[28, 28] })
  (A : OA) (n c : Nat) (xs : List Value) (hs : a.eval s = .slice A n c) (hbase : R.heap.size <= base) (hbW : base <= W.heap.size) {W₀ : World} (hown₀ : Ow 61 3 base W₀ A n c xs) (hW₀ : Below W₀.heap.size W₀ W) (hR : Below R.heap.size R W)
  (hx : a.eval x = .slice (some ⟨gx, 0, none⟩) 1 1) (hn : n <= 1099511627776)
  (h : ∀ A' c' y, Ow 61 3 base (ext R y) A' (n + 1) c' (xs ++ [v0, v1, v2]) -> W.grownBy (ext R y) (blkOf A) -> (blkOf A' = blkOf A ∨ ∃ g, blkOf A' = some g /\ W.heap.size < g) -> wpList Tryz.prog ops Q rest (a.put o.dst (.slice A' (n + 1) c')) (ext R y)) :
  wpList Tryz.prog ops Q (o :: rest) a (W.alloc (.cells #[v0, v1, v2] 61)) := by
 subst hgx;have hown := hown₀.below hW₀;obtain ⟨i0, hi0, hz0, hz1, hz2⟩ := info_parts Item_info;have hRw : Below R.heap.size R (W.alloc (.cells #[v0, v1, v2] 61)) := bAlloc hR _;have hown1 := hown.below (bAlloc (Below.refl W.heap.size W) (.cells #[v0, v1, v2] 61));refine wpList_append_own_at _ hgd s x _ ho base 61 i0 _ 3 _ Tryz.underlying28 hi0 hz0 hz1 hz2 rfl Om (.slice A n c) n xs hs hown1
  ⟨W.heap.size, 0, none⟩ 1 1 [v0, v1, v2] hx rfl ?_ ?_ (by simp only [maxLen]; omega) Om (by simp; omega) ?_
 ·
  intro j u hu
  match j with
  | 0 => simp at hu; subst hu; simp [Addr.add, go_sem]
  | 1 => simp at hu; subst hu; simp [Addr.add, go_sem]
  | 2 => simp at hu; subst hu; simp [Addr.add, go_sem]
  | j + 3 => simp at hu
 ·
  intro u hu;simp only [List.mem_cons, List.not_mem_nil, or_false] at hu
  rcases hu with rfl | rfl | rfl
  ·
   exact hv.1
  ·
   exact hv.2.1
  ·
   exact hv.2.2
 ·
  intro v' w' hown' hg _ hd;rw [ownBlock_slice] at hg hd;have hBw : Below R.heap.size R w' := below_grown hRw hg (fun k hk => Nat.le_trans hbase (hown1.blk hk).1);obtain ⟨y, rfl⟩ := ext_ex hBw
  rcases hown'.2 with ⟨_, h0⟩ | ⟨g', cap, cur, rfl, hrest⟩
  ·
   omega
  ·
   rw [ownBlock_slice] at hd;refine h _ _ y hown' ((World.grownBy_alloc W _ _).trans hg) ?_
   rcases hd with hd | hd
   ·
    exact .inl hd
   ·
    exact .inr ⟨_, hd, by simp⟩
end
section
variable {b hi : Nat} {w w' : World} {R : Fam} {j : Nat × Nat}
theorem Fo.lit (h : Fo b hi w R) (hn : R j = rowN) (hw : hi <= w.heap.size) (hb : b <= w.heap.size) (e s n : Nat) (cs : Array Value) (hs : cs.size = n * s) (hm : n <= maxLen) (l : List Value) (hl : cs.toList = l) : Fo b (w.heap.size + 1) (w.alloc (.cells cs e)) (upd R j ⟨e, s, some ⟨w.heap.size, 0, none⟩, n, n, l⟩) := by
 subst hl;refine h.put (by rw [hn]; exact grownBy_of_below bL) ?_ (.inr (.inr ⟨w.heap.size, rfl, hw⟩)) Om (fun z hz => by have : w.heap.size = z := Option.some.inj hz; omega);exact World.ownsRow_lit (base := b) (e := e) (size := s) w cs n hb hm hs
theorem Fo.store (h : Fo b hi w R) (e0 : R j = ⟨e, s, some ⟨g, 0, none⟩, n, c, xs⟩) (i : Nat) (v : Value) : Fo b hi (w.setCell ⟨g, i, none⟩ v) (upd R j ⟨e, s, some ⟨g, 0, none⟩, n, c, xs.set i v⟩) := by
 refine (h.wrote (by rw [e0]; exact gSetM _ _ _ _) ?_ (by rw [e0])).1;have ho := h.1 j;rw [e0] at ho;exact (Ow.stored_ ho i v).1
theorem Fo.at_ (h : Fo b hi w R) (e0 : R j = ⟨e, s, A, n, c, xs⟩) : Ow e s b w A n c xs := by
 have ho := h.1 j;rw [e0] at ho;exact ho
theorem Fo.cell (h : Fo b hi w R) (e0 : R j = ⟨e, s, some ⟨g, 0, none⟩, n, c, xs⟩) (i : Nat) (v : Value) (hv : xs[i]? = some v) : w.cell? ⟨g, i, none⟩ = some v /\ w.frozen? ⟨g, i, none⟩ = false := by
 have ho := h.at_ e0;have hl := ho.len;have hi := (List.getElem?_eq_some_iff.1 hv).1;exact ⟨(Ow.cell_ ho i Om).trans hv, Ow.frozen_ ho i⟩
theorem Fo.free {i k : Nat × Nat} (h : Fo b hi w R) (hne : i ≠ k) : blkOf (R i).A = none ∨ blkOf (R i).A ≠ blkOf (R k).A := h.2.1 i k hne
theorem Fo.addT {l : List BA} (h : Fo b hi w R) (hn : R j = rowN) (hb : Below w.heap.size w w') (hw : hi <= w.heap.size) (hb' : hi <= b') (hbb : b <= b') (ho : OwT b' w' A n c l) : Fo b w'.heap.size w' (upd R j (rowT A n c l)) := h.add hn hb hw hb' hbb ho (Nat.le_refl _)
theorem Fo.addI (h : Fo b hi w R) (hn : R j = rowN) (hb : Below w.heap.size w w') (hw : hi <= w.heap.size) (hb' : hi <= b') (hbb : b <= b') (ho : OwI b' w' A n c l) : Fo b w'.heap.size w' (upd R j (rowI A n c l)) := h.add hn hb hw hb' hbb ho (Nat.le_refl _)
theorem Fo.grewT {l l' : List BA} (h : Fo b hi w R) (e0 : R j = rowT A n c l) (hg : w.grownBy w' (blkOf A)) (ho : OwT b w' A' n' c' l') (hd : blkOf A' = blkOf A ∨ ∃ g, blkOf A' = some g /\ w.heap.size < g) (hw : hi <= w.heap.size) : Fo b w'.heap.size w' (upd R j (rowT A' n' c' l')) := by
 refine h.put (by rw [e0]; exact hg) ho ?_ (Nat.le_trans hw hg.size) (fun z hz => (Ow.blk ho hz).2)
 rcases hd with hd | ⟨g, hd, hlt⟩
 ·
  exact .inl (by rw [e0]; exact hd)
 ·
  exact .inr (.inr ⟨g, hd, Om⟩)
theorem Fo.grewI {l' : List Int} (h : Fo b hi w R) (e0 : R j = rowI A n c l) (hg : w.grownBy w' (blkOf A)) (ho : OwI b w' A' n' c' l') (hd : blkOf A' = blkOf A ∨ ∃ g, blkOf A' = some g /\ w.heap.size < g) (hw : hi <= w.heap.size) : Fo b w'.heap.size w' (upd R j (rowI A' n' c' l')) := by
 refine h.put (by rw [e0]; exact hg) ho ?_ (Nat.le_trans hw hg.size) (fun z hz => (Ow.blk ho hz).2)
 rcases hd with hd | ⟨g, hd, hlt⟩
 ·
  exact .inl (by rw [e0]; exact hd)
 ·
  exact .inr (.inr ⟨g, hd, Om⟩)
theorem Fo.grew {xs' : List Value} (h : Fo b hi w R) (e0 : R j = ⟨e, s, A, n, c, xs⟩) (hg : w.grownBy w' (blkOf A)) (ho : Ow e s b w' A' n' c' xs') (hd : blkOf A' = blkOf A ∨ ∃ g, blkOf A' = some g /\ w.heap.size < g) (hw : hi <= w.heap.size) : Fo b w'.heap.size w' (upd R j ⟨e, s, A', n', c', xs'⟩) := by
 refine h.put (by rw [e0]; exact hg) ho ?_ (Nat.le_trans hw hg.size) (fun z hz => (Ow.blk ho hz).2)
 rcases hd with hd | ⟨g, hd, hlt⟩
 ·
  exact .inl (by rw [e0]; exact hd)
 ·
  exact .inr (.inr ⟨g, hd, Om⟩)
theorem Fo.below' (h : Fo b hi w R) (hb : Below w.heap.size w w') (hw : hi <= w.heap.size) : Fo b w'.heap.size w' R := (h.below hb).mono (Nat.le_refl _) (Nat.le_trans hw hb.size)
end
def PfF (R : Fam) (I : OA) (n c : Nat) (its : List It) (GA : OA) (gn gc : Nat) (gg : List (List Int)) (KA : OA) (kn kc : Nat) (kk : List (List Int)) : Prop := ItF R I n c its /\ TbF 1 5 R GA gn gc gg /\ TbF 2 6 R KA kn kc kk
end Go.Proofs.YtlfhhkgleapamaaGreatDoor
