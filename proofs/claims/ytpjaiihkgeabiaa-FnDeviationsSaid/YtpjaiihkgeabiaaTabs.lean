/- Tables of rows that a call makes: a row appended, a row written, a row grown, and what such a table reads as. Conditions: lengths below 2^40. -/
import Derived.Test.YtpjaiihkgeabiaaMarks5
import Derived.Test.YtpjaiihkgeabiaaDrawK
set_option linter.unusedVariables false
set_option linter.unusedSimpArgs false
set_option maxRecDepth 100000
namespace Go.Proofs.Ytpjaiihkgeabiaa
open Go.RowKit
theorem row_info : (Try.prog.info? 30).map (fun i => (i.zero, i.size, i.bytes)) = some (some (.slice none 0 0), 1, 24) := by kernel_rfl
section
variable {ops : Array Oper} {rest : List Oper} {o : Oper} {a : Act} {Q : Exit → Act → World → Prop}
/-- append(s, v): one row onto a table of the call's own. R: the world of reference, W: the world before the one-cell block of v was made. -/
theorem wpl_push_row (R W : World) (B0 : Option Addr) (m0 d0 : Nat) (gx : Nat) (hgx : gx = W.heap.size) (hgd : o.guard = none) (s x : Operand) (ho : o.op = .call { callee := .builtin .append, args := #[s, x], argTypes := #[23, 23] })
    (A : Option Addr) (n c : Nat) (xs : List Value) (hs : a.eval s = .slice A n c) {base : Nat} (hbase : R.heap.size ≤ base) (hbW : base ≤ W.heap.size) {W₀ : World} (hown₀ : Ow 30 1 base W₀ A n c xs) (hW₀ : Below W₀.heap.size W₀ W) (hR : Below R.heap.size R W)
    (hx : a.eval x = .slice (some ⟨gx, 0, none⟩) 1 1) (hn : n ≤ 1099511627776)
    (h : ∀ A' c' y, Ow 30 1 base (ext R y) A' (n + 1) c' (xs ++ [.slice B0 m0 d0]) → W.grownBy (ext R y) (blkOf A) → (blkOf A' = blkOf A ∨ ∃ g, blkOf A' = some g ∧ W.heap.size < g) → wpList Try.prog ops Q rest (a.put o.dst (.slice A' (n + 1) c')) (ext R y)) :
    wpList Try.prog ops Q (o :: rest) a (W.alloc (.cells #[.slice B0 m0 d0] 30)) := by
  subst hgx
  have hown := hown₀.below hW₀
  obtain ⟨i0, hi0, hz0, hz1, hz2⟩ := info_parts row_info
  have hRw : Below R.heap.size R (W.alloc (.cells #[.slice B0 m0 d0] 30)) := bAlloc hR _
  have hown1 := hown.below (bAlloc (Below.refl W.heap.size W) (.cells #[.slice B0 m0 d0] 30))
  refine wpList_append_own_at _ hgd s x _ ho base 30 i0 (.slice none 0 0) 1 24 Try.underlying23 hi0 hz0 hz1 hz2 rfl (by omega) (.slice A n c) n xs hs hown1
    ⟨W.heap.size, 0, none⟩ 1 1 [.slice B0 m0 d0] hx rfl ?_ (by simp [Value.oneCell']) (by simp only [maxLen]; omega) (by omega) (by simp; omega) ?_
  · intro j u hu
    match j with
    | 0 => simp at hu; subst hu; simp [Addr.add, go_sem]
    | j + 1 => simp at hu
  · intro v' w' hown' hg _ hd
    rw [ownBlock_slice] at hg hd
    have hBw : Below R.heap.size R w' := below_grown hRw hg (fun k hk => Nat.le_trans hbase (hown1.blk hk).1)
    obtain ⟨y, rfl⟩ := ext_ex hBw
    rcases hown'.2 with ⟨_, h0⟩ | ⟨g', cap, cur, rfl, hrest⟩
    · omega
    · rw [ownBlock_slice] at hd
      refine h _ _ y hown' ((World.grownBy_alloc W _ _).trans hg) ?_
      rcases hd with hd | hd
      · exact .inl hd
      · exact .inr ⟨_, hd, by simp⟩
end
/-- append(s, source...) onto a table, as a step of a region that draws its order. -/
theorem step_app_row {ops : Array Oper} {o : Oper} {a : Act} {K : Act → World → Prop} {Q : Exit → Act → World → Prop} {E : Prop} (R : World) {W : World} (hgd : o.guard = none) (s x : Operand) (ho : o.op = .call { callee := .builtin .append, args := #[s, x], argTypes := #[23, 23] })
    (A : Option Addr) (n c : Nat) (xs : List Value) (hs : a.eval s = .slice A n c) {base : Nat} (hbase : R.heap.size ≤ base) (hbW : base ≤ W.heap.size) {W₀ : World} (hown₀ : Ow 30 1 base W₀ A n c xs) (hW₀ : Below W₀.heap.size W₀ W) (hR : Below R.heap.size R W)
    (b d : Nat) (B0 : Option Addr) (m0 d0 : Nat) (hx : a.eval x = .slice (some ⟨b, 0, none⟩) 1 d) (hb : b < W.heap.size) (hc : W.cell? ⟨b, 0, none⟩ = some (.slice B0 m0 d0)) (hn : n ≤ 1099511627776)
    (h : ∀ A' c' y, Ow 30 1 base (ext R y) A' (n + 1) c' (xs ++ [.slice B0 m0 d0]) → W.grownBy (ext R y) (blkOf A) → (blkOf A' = blkOf A ∨ blkOf A' = some W.heap.size) → K (a.put o.dst (.slice A' (n + 1) c')) (ext R y)) :
    if Region.wanted o (yielded ops a.tmps) = true then Oper.wp Try.prog o a W K Q else E := by
  have hw : Region.wanted o (yielded ops a.tmps) = true := by simp [Region.wanted, hgd]
  rw [if_pos hw]
  have hown := hown₀.below hW₀
  have hr : Rd 1 W (some ⟨b, 0, none⟩) 1 [.slice B0 m0 d0] := ⟨by simp, fun _ => ⟨b, 0, rfl, hb, fun j u hu => by
    match j with
    | 0 => simp at hu; subst hu; exact hc
    | j + 1 => simp at hu⟩⟩
  obtain ⟨i0, hi0, hz0, hz1, hz2⟩ := info_parts row_info
  obtain ⟨v', w', hrun, h2, h3, h4⟩ := run_append_rd (P := Try.prog) W base 23 o.type 30 i0 (.slice none 0 0) 1 24 Try.underlying23 hi0 hz0 hz1 hz2 rfl (by omega) (.slice A n c) n xs hown (some ⟨b, 0, none⟩) 1 d [.slice B0 m0 d0] hr
    (by intro u hu; simp at hu; subst hu; rfl) (by simp only [maxLen]; omega) (by omega) hbW
  unfold Oper.wp execOp
  simp only [ho, resolve, invoke, builtin, Sem.run_bind, Sem.run_pure, Result.andThen_ok, List.map_toArray, List.map_cons, List.map_nil, hs, hx, hrun]
  rw [ownBlock_slice] at h3 h4
  have hBw : Below R.heap.size R w' := below_grown hR h3 (fun k hk => Nat.le_trans hbase (hown.blk hk).1)
  obtain ⟨y, rfl⟩ := ext_ex hBw
  rcases h2.2 with ⟨hv, h0⟩ | ⟨g', cap, cur, hv, hrest⟩
  · omega
  · subst hv
    rw [ownBlock_slice] at h4
    exact h _ _ y h2 h3 h4
theorem Ow.rebase {e s base base' n c : Nat} {w : World} {A : Option Addr} {xs : List Value} (h : Ow e s base w A n c xs) (hn : ∀ z, blkOf A = some z → base' ≤ z) : Ow e s base' w A n c xs := by
  refine ⟨h.1, ?_⟩
  rcases h.2 with h2 | ⟨g, cap, cur, hv, hg, r⟩
  · exact .inl h2
  · have hv' := hv
    simp at hv'
    exact .inr ⟨g, cap, cur, hv, hn g (by rw [hv'.1]; rfl), r⟩
theorem OwI.rebase {base base' n c : Nat} {w : World} {A : Option Addr} {l : List Int} (h : OwI base w A n c l) (hn : ∀ z, blkOf A = some z → base' ≤ z) : OwI base' w A n c l := Ow.rebase h hn
theorem OwMB.nil_ {base hi : Nat} {w : World} : OwMB base hi w none 0 0 [] :=
  ⟨rfl, fun _ => none, fun _ => 0, fun _ => 0, ⟨Ow.nil_, fun j hj => absurd hj (by omega), fun i j hi => absurd hi (by omega)⟩, (fun z hz => by cases hz), fun j hj => absurd hj (by omega)⟩
/-- A row appended. -/
theorem OwMB.push {base lo n c m0 d0 : Nat} {W : World} {A B0 : Option Addr} {ll : List (List Int)} {l : List Int} (h : OwMB base lo W A n c ll) (hlo : lo ≤ W.heap.size) (hbl : base ≤ lo) (hr : OwI lo W B0 m0 d0 l) :
    ∃ xs, Ow 30 1 base W A n c xs ∧ ∀ (W' : World) (A' : Option Addr) (c' : Nat), Ow 30 1 base W' A' (n + 1) c' (xs ++ [.slice B0 m0 d0]) → W.grownBy W' (blkOf A) → (blkOf A' = blkOf A ∨ ∃ g, blkOf A' = some g ∧ W.heap.size < g) → OwMB base W'.heap.size W' A' (n + 1) c' (ll ++ [l]) := by
  obtain ⟨g1, B, m, d, ⟨g2, g3, g4⟩, g5, g6⟩ := h
  refine ⟨_, g2, fun W' A' c' ho hg hd => ?_⟩
  have hrow : ∀ j, j < n → ∀ z, blkOf (B j) = some z → z < lo := g6
  have hB0 : ∀ z, blkOf B0 = some z → lo ≤ z ∧ z < W.heap.size := fun z hz => hr.blk hz
  have hB0A : blkOf B0 = none ∨ blkOf B0 ≠ blkOf A := by
    cases hz : blkOf B0 with
    | none => exact .inl rfl
    | some z => exact .inr fun e => by have := (hB0 z hz).1; have := g5 z e.symm; omega
  refine ⟨by simp [g1], fun j => if j = n then B0 else B j, fun j => if j = n then m0 else m j, fun j => if j = n then d0 else d j, ⟨?_, fun j hj => ?_, fun i j hi hj hij => ?_⟩, fun z hz => (ho.blk hz).2, fun j hj z hz => ?_⟩
  · refine cast (congrArg (Ow _ _ _ _ _ _ _) ?_) ho
    rw [List.range_succ, List.map_append]
    congr 1
    · refine List.map_congr_left fun j hj => ?_
      have : j ≠ n := by simp at hj; omega
      simp [this]
    · simp
  · by_cases e : j = n
    · subst e
      simp only [if_true]
      have hl : (ll ++ [l])[j]?.getD [] = l := by rw [← g1]; simp
      rw [hl]
      refine ⟨(hr.mono hbl).kept hg hB0A, ?_⟩
      cases hz : blkOf B0 with
      | none => exact .inl rfl
      | some z =>
        refine .inr fun e => ?_
        rcases hd with hd | ⟨g, hd, hlt⟩
        · rw [hd] at e; rw [hz] at hB0A; rcases hB0A with h | h
          · cases h
          · exact h e
        · rw [hd] at e; injection e with e; have := (hB0 z hz).2; omega
    · simp only [if_neg e]
      have hl : (ll ++ [l])[j]?.getD [] = ll[j]?.getD [] := by rw [List.getElem?_append_left (by omega)]
      rw [hl]
      refine ⟨(g3 j (by omega)).1.kept hg (g3 j (by omega)).2, ?_⟩
      cases hz : blkOf (B j) with
      | none => exact .inl rfl
      | some z =>
        refine .inr fun e' => ?_
        rcases hd with hd | ⟨g, hd, hlt⟩
        · rw [hd] at e'
          have := (g3 j (by omega)).2
          rw [hz] at this
          rcases this with h | h
          · cases h
          · exact h e'
        · rw [hd] at e'; injection e' with e'; have := hrow j (by omega) z hz; omega
  · by_cases e1 : i = n
    · have e2 : j ≠ n := fun h => hij (e1.trans h.symm)
      simp only [if_pos e1, if_neg e2]
      cases hz : blkOf B0 with
      | none => exact .inl rfl
      | some z => exact .inr fun e => by have := (hB0 z hz).1; have := hrow j (by omega) z e.symm; omega
    · by_cases e2 : j = n
      · simp only [if_neg e1, if_pos e2]
        cases hz : blkOf (B i) with
        | none => exact .inl rfl
        | some z => exact .inr fun e => by have := (hB0 z e.symm).1; have := hrow i (by omega) z hz; omega
      · simp only [if_neg e1, if_neg e2]; exact g4 i j (by omega) (by omega) hij
  · simp only at hz
    have hsz := hg.size
    by_cases e : j = n
    · rw [if_pos e] at hz; have := (hB0 z hz).2; omega
    · rw [if_neg e] at hz; have := hrow j (by omega) z hz; omega
/-- A table that can be read, all its blocks such that S says so, its rows' blocks others than its own. -/
def Tr (S : Nat → Prop) (w : World) (A : Option Addr) (n c : Nat) (ll : List (List Int)) : Prop :=
  ll.length = n ∧ n ≤ c ∧ c ≤ maxLen ∧ (0 < n → ∃ b off, A = some ⟨b, off, none⟩ ∧ b < w.heap.size ∧ S b ∧ ∀ j, j < n → ∃ B m d, w.cell? ⟨b, off + j, none⟩ = some (.slice B m d) ∧ RdI w B m (ll[j]?.getD []) ∧ m ≤ d ∧ d ≤ maxLen ∧ ∀ z, blkOf B = some z → S z ∧ z ≠ b)
theorem Tr.nil_ {S : Nat → Prop} {w : World} : Tr S w none 0 0 [] := ⟨rfl, Nat.le_refl _, by simp [maxLen], fun h => absurd h (by omega)⟩
section
variable {S : Nat → Prop} {w w' : World} {A : Option Addr} {n c : Nat} {ll : List (List Int)}
theorem Tr.rd (h : Tr S w A n c ll) : RdM w A n ll := by
  obtain ⟨h1, _, _, h2⟩ := h
  refine ⟨h1, fun hn => ?_⟩
  obtain ⟨b, off, e, hlt, _, hc⟩ := h2 hn
  exact ⟨b, off, e, hlt, fun j hj => by obtain ⟨B, m, d, q1, q2, q3, q4, _⟩ := hc j hj; exact ⟨B, m, d, q1, q2, q3, q4⟩⟩
theorem RdI.keptR {B : Option Addr} {m : Nat} {l : List Int} {row : Option Nat} (h : RdI w B m l) (hg : w.grownBy w' row) (hne : ∀ z, blkOf B = some z → some z ≠ row) : RdI w' B m l := by
  refine ⟨h.1, fun hm => ?_⟩
  obtain ⟨b, off, rfl, hlt, hc⟩ := h.2 hm
  exact ⟨b, off, rfl, Nat.lt_of_lt_of_le hlt hg.size, fun j u hu => (World.cell?_of_block (hg.block b hlt (hne b rfl))).trans (hc j u hu)⟩
theorem Tr.kept {row : Option Nat} (h : Tr S w A n c ll) (hg : w.grownBy w' row) (hS : ∀ z, S z → some z ≠ row) : Tr S w' A n c ll := by
  obtain ⟨h1, h3, h4, h2⟩ := h
  refine ⟨h1, h3, h4, fun hn => ?_⟩
  obtain ⟨b, off, rfl, hlt, hs, hc⟩ := h2 hn
  refine ⟨b, off, rfl, Nat.lt_of_lt_of_le hlt hg.size, hs, fun j hj => ?_⟩
  obtain ⟨B, m, d, q1, q2, q3, q4, q5⟩ := hc j hj
  exact ⟨B, m, d, (World.cell?_of_block (hg.block b hlt (hS b hs))).trans q1, q2.keptR hg (fun z hz => hS z (q5 z hz).1), q3, q4, q5⟩
theorem Tr.below (h : Tr S w A n c ll) (hb : Below w.heap.size w w') : Tr S w' A n c ll := h.kept (row := none) (grownBy_of_below hb) (fun z _ e => by cases e)
theorem Tr.set {g k : Nat} {v : Value} (h : Tr S w A n c ll) (hS : ¬ S g) : Tr S (w.setCell ⟨g, k, none⟩ v) A n c ll := h.kept (gSetM w g k v) (fun z hz e => by injection e with e; subst e; exact hS hz)
theorem Tr.imp {S' : Nat → Prop} (h : Tr S w A n c ll) (hS : ∀ z, S z → S' z) : Tr S' w A n c ll := by
  obtain ⟨h1, h3, h4, h2⟩ := h
  refine ⟨h1, h3, h4, fun hn => ?_⟩
  obtain ⟨b, off, rfl, hlt, hs, hc⟩ := h2 hn
  refine ⟨b, off, rfl, hlt, hS _ hs, fun j hj => ?_⟩
  obtain ⟨B, m, d, q1, q2, q3, q4, q5⟩ := hc j hj
  exact ⟨B, m, d, q1, q2, q3, q4, fun z hz => ⟨hS z (q5 z hz).1, (q5 z hz).2⟩⟩
/-- A cell of the table is written anew: its row is another one now. -/
theorem Tr.put {b off k m0 d0 : Nat} {B0 : Option Addr} {l : List Int} (h : Tr S w (some ⟨b, off, none⟩) n c ll) (hk : k < n) (hr : RdI w B0 m0 l) (hmd : m0 ≤ d0) (hd : d0 ≤ maxLen) (hB : ∀ z, blkOf B0 = some z → S z ∧ z ≠ b) :
    Tr S (w.setCell ⟨b, off + k, none⟩ (.slice B0 m0 d0)) (some ⟨b, off, none⟩) n c (ll.set k l) := by
  obtain ⟨h1, h3, h4, h2⟩ := h
  refine ⟨by simpa using h1, h3, h4, fun hn => ?_⟩
  obtain ⟨b', off', e, hlt, hs, hc⟩ := h2 hn
  injection e with e
  injection e with e1 e2
  subst e1 e2
  have hg := gSetM w b (off + k) (.slice B0 m0 d0)
  have hsz : b < (w.setCell ⟨b, off + k, none⟩ (.slice B0 m0 d0)).heap.size := Nat.lt_of_lt_of_le hlt hg.size
  refine ⟨b, off, rfl, hsz, hs, fun j hj => ?_⟩
  by_cases ej : j = k
  · subst ej
    have hl : (ll.set j l)[j]?.getD [] = l := by simp [h1, hj]
    rw [hl]
    obtain ⟨B, m, d, q1, _⟩ := hc j hj
    refine ⟨B0, m0, d0, ?_, hr.keptR hg (fun z hz e => by injection e with e; exact (hB z hz).2 e), hmd, hd, hB⟩
    exact World.cell?_setCell_same _ _ _ q1
  · obtain ⟨B, m, d, q1, q2, q3, q4, q5⟩ := hc j hj
    have hl : (ll.set k l)[j]?.getD [] = ll[j]?.getD [] := by rw [List.getElem?_set_ne (fun h => ej h.symm)]
    rw [hl]
    refine ⟨B, m, d, ?_, q2.keptR hg (fun z hz e => by injection e with e; exact (q5 z hz).2 e), q3, q4, q5⟩
    rw [← q1]
    exact World.cell?_setCell_other _ _ _ _ (fun e => by injection e with _ e; omega)
end
/-- A table in blocks from base on and below hi reads. -/
theorem OwMB.tr {S : Nat → Prop} {base hi n c : Nat} {w : World} {A : Option Addr} {ll : List (List Int)} (h : OwMB base hi w A n c ll) (hS : ∀ z, base ≤ z → z < hi → S z) : Tr S w A n c ll := by
  obtain ⟨g1, B, m, d, ⟨g2, g3, g4⟩, g5, g6⟩ := h
  refine ⟨g1, g2.cap_.1, g2.cap_.2, fun hn => ?_⟩
  obtain ⟨g, rfl, hb, hlt⟩ := g2.form_ hn
  refine ⟨g, 0, rfl, hlt, hS g hb (g5 g rfl), fun j hj => ⟨B j, m j, d j, ?_, (g3 j hj).1.rd, (g3 j hj).1.cap_.1, (g3 j hj).1.cap_.2, fun z hz => ?_⟩⟩
  · rw [Nat.zero_add, Ow.cell_ g2 j (by omega)]; simp [hj]
  · refine ⟨hS z ((g3 j hj).1.blk hz).1 (g6 j hj z hz), fun e => ?_⟩
    have := (g3 j hj).2
    rw [hz, e] at this
    rcases this with h | h
    · cases h
    · exact h rfl
/-- A row of a table has grown (in its place or elsewhere) and is put back. -/
theorem OwMB.grow_row {S : Nat → Prop} {base hi b' n c g k m0 d0 m1 d1 : Nat} {w w' : World} {B0 B1 : Option Addr} {ll : List (List Int)} {l' : List Int} (h : OwMB base hi w (some ⟨g, 0, none⟩) n c ll) (hk : k < n) (hcell : w.cell? ⟨g, k, none⟩ = some (.slice B0 m0 d0)) (hg : w.grownBy w' (blkOf B0)) (hr : OwI b' w' B1 m1 d1 l') (hd : blkOf B1 = blkOf B0 ∨ ∃ z, blkOf B1 = some z ∧ w.heap.size ≤ z)
    (hS : ∀ z, base ≤ z → z < hi → S z) (hS2 : ∀ z, w.heap.size ≤ z → S z) : Tr S (w'.setCell ⟨g, k, none⟩ (.slice B1 m1 d1)) (some ⟨g, 0, none⟩) n c (ll.set k l') := by
  obtain ⟨g1, B, m, d, ⟨g2, g3, g4⟩, g5, g6⟩ := h
  have hgl := (g2.blk (g := g) rfl)
  have hck : w.cell? ⟨g, k, none⟩ = some (.slice (B k) (m k) (d k)) := by rw [Ow.cell_ g2 k (by omega)]; simp [hk]
  rw [hcell] at hck
  injection hck with hck
  injection hck with e1 e2 e3
  subst e1 e2 e3
  have h3 := g2.kept hg (by
    rcases (g3 k hk).2 with h | h
    · rw [h]; cases blkOf (some (⟨g, 0, none⟩ : Addr)) <;> simp
    · exact .inr fun e => h e.symm)
  have hset := gSetM w' g k (.slice B1 m1 d1)
  have hS1 : ∀ z, blkOf B1 = some z → S z ∧ z ≠ g := fun z hz => by
    rcases hd with hd | ⟨y, hd, hy⟩
    · rw [hd] at hz
      refine ⟨hS z ((g3 k hk).1.blk hz).1 (g6 k hk z hz), fun e => ?_⟩
      have := (g3 k hk).2
      rw [hz, e] at this
      rcases this with h | h
      · cases h
      · exact h rfl
    · rw [hd] at hz; injection hz with hz; subst hz
      exact ⟨hS2 y hy, by omega⟩
  refine ⟨by simpa using g1, g2.cap_.1, g2.cap_.2, fun hn => ⟨g, 0, rfl, ?_, hS g hgl.1 (g5 g rfl), fun j hj => ?_⟩⟩
  · exact Nat.lt_of_lt_of_le hgl.2 (Nat.le_trans hg.size hset.size)
  · rw [Nat.zero_add]
    have hcj : w'.cell? ⟨g, j, none⟩ = some (.slice (B j) (m j) (d j)) := by rw [Ow.cell_ h3 j (by omega)]; simp [hj]
    by_cases ej : j = k
    · subst ej
      have hl : (ll.set j l')[j]?.getD [] = l' := by simp [g1, hj]
      rw [hl]
      exact ⟨B1, m1, d1, World.cell?_setCell_same _ _ _ hcj, hr.rd.keptR hset (fun z hz e => by injection e with e; exact (hS1 z hz).2 e), hr.cap_.1, hr.cap_.2, hS1⟩
    · have hl : (ll.set k l')[j]?.getD [] = ll[j]?.getD [] := by rw [List.getElem?_set_ne (fun h => ej h.symm)]
      rw [hl]
      have hne : ∀ z, blkOf (B j) = some z → z ≠ g := fun z hz e => by
        have := (g3 j hj).2
        rw [hz, e] at this
        rcases this with h | h
        · cases h
        · exact h rfl
      refine ⟨B j, m j, d j, ?_, ?_, (g3 j hj).1.cap_.1, (g3 j hj).1.cap_.2, fun z hz => ⟨hS z ((g3 j hj).1.blk hz).1 (g6 j hj z hz), hne z hz⟩⟩
      · rw [← hcj]
        exact World.cell?_setCell_other _ _ _ _ (fun e => by injection e with _ e; omega)
      · refine (((g3 j hj).1.kept hg (g4 j k hj hk ej)).rd).keptR hset (fun z hz e => by injection e with e; exact hne z hz e)
/-- A table's first row appended to it once more. -/
theorem OwMB.push_own {S : Nat → Prop} {base hi n c : Nat} {w : World} {A : Option Addr} {ll : List (List Int)} (h : OwMB base hi w A n c ll) (hn : 0 < n) (hS : ∀ z, base ≤ z → z < hi → S z) (hS2 : ∀ z, w.heap.size ≤ z → S z) :
    ∃ g xs B0 m0 d0, A = some ⟨g, 0, none⟩ ∧ g < w.heap.size ∧ w.cell? ⟨g, 0, none⟩ = some (.slice B0 m0 d0) ∧ w.frozen? ⟨g, 0, none⟩ = false ∧ Ow 30 1 base w A n c xs ∧
      ∀ (w' : World) (A' : Option Addr) (c' : Nat), Ow 30 1 base w' A' (n + 1) c' (xs ++ [.slice B0 m0 d0]) → w.grownBy w' (blkOf A) → (blkOf A' = blkOf A ∨ ∃ z, blkOf A' = some z ∧ w.heap.size ≤ z) → Tr S w' A' (n + 1) c' (ll ++ [ll[0]?.getD []]) := by
  obtain ⟨g1, B, m, d, ⟨g2, g3, g4⟩, g5, g6⟩ := h
  obtain ⟨g, rfl, hb, hlt⟩ := g2.form_ hn
  have hc0 : w.cell? ⟨g, 0, none⟩ = some (.slice (B 0) (m 0) (d 0)) := by rw [Ow.cell_ g2 0 (by omega)]; simp [hn]
  refine ⟨g, _, B 0, m 0, d 0, rfl, hlt, hc0, Ow.frozen_ g2 0, g2, fun w' A' c' ho hg hd => ?_⟩
  obtain ⟨g', rfl, hb', hlt'⟩ := ho.form_ (by omega)
  have hA' : S g' := by
    rcases hd with hd | ⟨z, hd, hz⟩
    · have e : g' = g := by simpa [blkOf] using hd
      subst e; exact hS g' hb (g5 g' rfl)
    · have e : g' = z := by simpa [blkOf] using hd
      subst e; exact hS2 g' hz
  have hrow : ∀ j, j < n → RdI w' (B j) (m j) (ll[j]?.getD []) ∧ m j ≤ d j ∧ d j ≤ maxLen ∧ ∀ z, blkOf (B j) = some z → S z ∧ z ≠ g' := fun j hj => by
    refine ⟨((g3 j hj).1.kept hg (g3 j hj).2).rd, (g3 j hj).1.cap_.1, (g3 j hj).1.cap_.2, fun z hz => ⟨hS z ((g3 j hj).1.blk hz).1 (g6 j hj z hz), fun e => ?_⟩⟩
    have hzl := ((g3 j hj).1.blk hz).2
    rcases hd with hd | ⟨y, hd, hy⟩
    · have e' : g' = g := by simpa [blkOf] using hd
      have := (g3 j hj).2
      rw [hz, e, e'] at this
      rcases this with h | h
      · cases h
      · exact h rfl
    · have e' : g' = y := by simpa [blkOf] using hd
      omega
  refine ⟨by simp [g1], ho.cap_.1, ho.cap_.2, fun _ => ⟨g', 0, rfl, hlt', hA', fun j hj => ?_⟩⟩
  rw [Nat.zero_add]
  have hcj := Ow.cell_ ho j (by omega)
  by_cases e : j = n
  · subst e
    have hl : (ll ++ [ll[0]?.getD []])[j]?.getD [] = ll[0]?.getD [] := by rw [← g1]; simp
    rw [hl]
    refine ⟨B 0, m 0, d 0, ?_, hrow 0 hn⟩
    rw [hcj, List.getElem?_append_right (by simp)]
    simp
  · have hl : (ll ++ [ll[0]?.getD []])[j]?.getD [] = ll[j]?.getD [] := by rw [List.getElem?_append_left (by omega)]
    rw [hl]
    refine ⟨B j, m j, d j, ?_, hrow j (by omega)⟩
    rw [hcj, List.getElem?_append_left (by simp; omega)]
    simp [show j < n by omega]
theorem RdI.drop1 {w : World} {b m : Nat} {l : List Int} (h : RdI w (some ⟨b, 0, none⟩) m l) (hm : 1 ≤ m) : RdI w (some ⟨b, 1, none⟩) (m - 1) (l.drop 1) := by
  have hl := h.len
  refine ⟨by simp; omega, fun _ => ?_⟩
  obtain ⟨b', off, e, hlt, hc⟩ := h.2 (by omega)
  injection e with e
  injection e with e1 e2
  subst e1 e2
  refine ⟨b, 1, rfl, hlt, fun j u hu => ?_⟩
  have := hc (j + 1) u (by simpa [List.map_drop] using hu)
  rw [Nat.zero_add] at this
  rw [Nat.add_comm 1 j]
  exact this
end Go.Proofs.Ytpjaiihkgeabiaa
