/- Rows of a call's own: a slice of ints that the call made, what append, make and stores do to it, stated against one world of reference. Conditions: lengths below 2^40. -/
import Derived.Test.YtmeaklaagglmeaaGreatDoorXLib
import Derived.Maps.AppendAt
import Derived.Deep.AppendLies
import Derived.RegionTactic
import Derived.OwnWalk
set_option linter.unusedVariables false
set_option linter.unusedSimpArgs false
set_option maxRecDepth 100000
namespace Go.Proofs.YtmeaklaagglmeaaGreatDoor
open Go.RowKit

def blkOf (A : Option Addr) : Option Nat := A.map (·.block)
theorem ownBlock_slice (A : Option Addr) (n c : Nat) : (Value.slice A n c).ownBlock = blkOf A := by cases A <;> rfl

def Ow (e s base : Nat) (w : World) (A : Option Addr) (n c : Nat) (xs : List Value) : Prop := w.ownsRow base e s (.slice A n c) n xs

section
variable {e s base base' n c : Nat} {w w' : World} {A : Option Addr} {xs : List Value}
theorem grownBy_of_below {row : Option Nat} (h : Below w.heap.size w w') : w.grownBy w' row := ⟨h.os, h.tape, h.output, h.size, fun k hk _ => h.block k hk⟩
theorem Ow.len (h : Ow e s base w A n c xs) : xs.length = n * s := h.1
theorem Ow.below (h : Ow e s base w A n c xs) (hb : Below w.heap.size w w') : Ow e s base w' A n c xs := by
 refine World.ownsRow.kept h (grownBy_of_below (row := none) hb) ?_
 cases hv : (Value.slice A n c).ownBlock <;> simp
theorem Ow.kept {row : Option Nat} (h : Ow e s base w A n c xs) (hg : w.grownBy w' row) (hne : blkOf A = none ∨ blkOf A ≠ row) : Ow e s base w' A n c xs :=
 World.ownsRow.kept h hg (by rw [ownBlock_slice]; exact hne)
theorem Ow.mono (h : Ow e s base w A n c xs) (hb : base' ≤ base) : Ow e s base' w A n c xs := by
 refine ⟨h.1, ?_⟩
 rcases h.2 with h2 | ⟨g, cap, cur, hv, hg, r⟩
 ·
  exact .inl h2
 ·
  exact .inr ⟨g, cap, cur, hv, Nat.le_trans hb hg, r⟩
theorem Ow.nil_ : Ow e s base w none 0 0 [] := World.ownsRow_nil w base e s
theorem Ow.cap_ (h : Ow e s base w A n c xs) : n ≤ c ∧ c ≤ maxLen := by
 rcases h.2 with ⟨h2, _⟩ | ⟨g, cap, cur, hv, _, _, h3, h4, _⟩
 ·
  simp at h2; obtain ⟨rfl, rfl, rfl⟩ := h2; simp [maxLen]
 ·
  simp at hv; obtain ⟨_, rfl⟩ := hv; exact ⟨h3, h4⟩
theorem Ow.form_ (h : Ow e s base w A n c xs) (hn : 0 < n) : ∃ g, A = some ⟨g, 0, none⟩ ∧ base ≤ g ∧ g < w.heap.size := by
 rcases h.2 with ⟨_, h2⟩ | ⟨g, cap, cur, hv, hb, hg, _⟩
 ·
  omega
 ·
  simp at hv
  exact ⟨g, hv.1, hb, (Array.getElem?_eq_some_iff.1 hg).1⟩
theorem Ow.blk (h : Ow e s base w A n c xs) {g : Nat} (hA : blkOf A = some g) : base ≤ g ∧ g < w.heap.size :=
 World.ownsRow.lt h g (by rw [ownBlock_slice]; exact hA)
theorem Ow.rd (h : Ow e s base w A n c xs) : Rd s w A n xs := by
 refine ⟨h.1, fun hn => ?_⟩
 obtain ⟨g, rfl, hb, hlt⟩ := h.form_ hn
 refine ⟨g, 0, rfl, hlt, fun j u hu => ?_⟩
 have := World.ownsRow.cells h (g := g) rfl j u hu
 rw [Nat.zero_add]
 have hadd : (⟨g, 0, none⟩ : Addr).add j = ⟨g, j, none⟩ := by unfold Addr.add; split <;> simp_all
 rw [hadd] at this
 exact this
theorem below_grown {R : World} {row : Option Nat} (h : Below R.heap.size R w) (hg : w.grownBy w' row) (hr : ∀ k, row = some k → R.heap.size ≤ k) : Below R.heap.size R w' := h.grown hg h.size hr
end

theorem int_info : (Tryz.prog.info? 3).map (fun i => (i.zero, i.size, i.bytes)) = some (some (.int .i64 0), 1, 8) := by kernel_rfl

def OwI (base : Nat) (w : World) (A : Option Addr) (n c : Nat) (l : List Int) : Prop := Ow 3 1 base w A n c (l.map (Value.int .i64))
section
variable {base base' n c : Nat} {w w' : World} {A : Option Addr} {l : List Int}
theorem OwI.len (h : OwI base w A n c l) : l.length = n := by have := Ow.len h; simpa using this
theorem OwI.below (h : OwI base w A n c l) (hb : Below w.heap.size w w') : OwI base w' A n c l := Ow.below h hb
theorem OwI.kept {row : Option Nat} (h : OwI base w A n c l) (hg : w.grownBy w' row) (hne : blkOf A = none ∨ blkOf A ≠ row) : OwI base w' A n c l := Ow.kept h hg hne
theorem OwI.mono (h : OwI base w A n c l) (hb : base' ≤ base) : OwI base' w A n c l := Ow.mono h hb
theorem OwI.nil_ : OwI base w none 0 0 [] := Ow.nil_
theorem OwI.rd (h : OwI base w A n c l) : RdI w A n l := Ow.rd h
theorem OwI.blk (h : OwI base w A n c l) {g : Nat} (hA : blkOf A = some g) : base ≤ g ∧ g < w.heap.size := Ow.blk h hA
theorem OwI.lit_ {R w : World} (hR : Below R.heap.size R w) (l : List Int) (hl : l.length ≤ maxLen) (cs : Array Value) (hcs : cs.toList = l.map (Value.int .i64)) :
  OwI R.heap.size (w.alloc (.cells cs 3)) (some ⟨w.heap.size, 0, none⟩) l.length l.length l := by
 have hs : cs.size = l.length * 1 := by rw [← Array.length_toList, hcs]; simp
 have := World.ownsRow_lit (base := R.heap.size) (e := 3) (size := 1) w cs l.length hR.size hl hs
 rw [hcs] at this
 exact this
end

theorem Ow.stored_ {e s base n c g : Nat} {w : World} {xs : List Value} (h : Ow e s base w (some ⟨g, 0, none⟩) n c xs) (j : Nat) (u : Value) :
  Ow e s base (w.setCell ⟨g, j, none⟩ u) (some ⟨g, 0, none⟩) n c (xs.set j u) ∧ w.grownBy (w.setCell ⟨g, j, none⟩ u) (some g) := World.ownsRow.stored h j u
theorem Ow.cell_ {e s base n c g : Nat} {w : World} {xs : List Value} (h : Ow e s base w (some ⟨g, 0, none⟩) n c xs) (j : Nat) (hj : j < n * s) : w.cell? ⟨g, j, none⟩ = xs[j]? := World.ownsRow.cellAt h j hj
theorem Ow.frozen_ {e s base n c g : Nat} {w : World} {xs : List Value} (h : Ow e s base w (some ⟨g, 0, none⟩) n c xs) (j : Nat) : w.frozen? ⟨g, j, none⟩ = false := World.ownsRow.frozenAt h j
theorem OwI.stored_ {base n c g : Nat} {w : World} {l : List Int} (h : OwI base w (some ⟨g, 0, none⟩) n c l) (j : Nat) (u : Int) :
  OwI base (w.setCell ⟨g, j, none⟩ (.int .i64 u)) (some ⟨g, 0, none⟩) n c (l.set j u) ∧ w.grownBy (w.setCell ⟨g, j, none⟩ (.int .i64 u)) (some g) := by
 have := Ow.stored_ h j (.int .i64 u)
 refine ⟨?_, this.2⟩
 unfold OwI
 rw [List.map_set]
 exact this.1
theorem OwI.cell_ {base n c g : Nat} {w : World} {l : List Int} (h : OwI base w (some ⟨g, 0, none⟩) n c l) (j : Nat) (hj : j < n) : w.cell? ⟨g, j, none⟩ = some (.int .i64 (l[j]?.getD 0)) := by
 have hl := h.len
 rw [Ow.cell_ h j (by omega)]
 simp [show j < l.length by omega]
theorem OwI.frozen_ {base n c g : Nat} {w : World} {l : List Int} (h : OwI base w (some ⟨g, 0, none⟩) n c l) (j : Nat) : w.frozen? ⟨g, j, none⟩ = false := Ow.frozen_ h j
theorem OwI.form_ {base n c : Nat} {w : World} {A : Option Addr} {l : List Int} (h : OwI base w A n c l) (hn : 0 < n) : ∃ g, A = some ⟨g, 0, none⟩ ∧ base ≤ g ∧ g < w.heap.size := Ow.form_ h hn

section
variable {ops : Array Oper} {rest : List Oper} {o : Oper} {a : Act} {Q : Exit → Act → World → Prop}
theorem wpl_push_int (R W : World) (v : Int) (gx : Nat) (hgx : gx = W.heap.size) (hgd : o.guard = none) (s x : Operand) (ho : o.op = .call { callee := .builtin .append, args := #[s, x], argTypes := #[23, 23] })
  (A : Option Addr) (n c : Nat) (l : List Int) (hs : a.eval s = .slice A n c) {W₀ : World} (hown₀ : OwI R.heap.size W₀ A n c l) (hW₀ : Below W₀.heap.size W₀ W) (hR : Below R.heap.size R W)
  (hx : a.eval x = .slice (some ⟨gx, 0, none⟩) 1 1) (hn : n ≤ 1099511627776)
  (h : ∀ A' c' y, OwI R.heap.size (ext R y) A' (n + 1) c' (l ++ [v]) → W.grownBy (ext R y) (blkOf A) → (blkOf A' = blkOf A ∨ ∃ g, blkOf A' = some g ∧ W.heap.size < g) → wpList Tryz.prog ops Q rest (a.put o.dst (.slice A' (n + 1) c')) (ext R y)) :
  wpList Tryz.prog ops Q (o :: rest) a (W.alloc (.cells #[.int .i64 v] 3)) := by
 subst hgx
 have hown := hown₀.below hW₀
 obtain ⟨i0, hi0, hz0, hz1, hz2⟩ := info_parts int_info
 have hRw : Below R.heap.size R (W.alloc (.cells #[.int .i64 v] 3)) := bAlloc hR _
 have hown1 := hown.below (bAlloc (Below.refl W.heap.size W) (.cells #[.int .i64 v] 3))
 refine wpList_append_own_at _ hgd s x _ ho R.heap.size 3 i0 (.int .i64 0) 1 8 Tryz.underlying23 hi0 hz0 hz1 hz2 rfl (by omega) (.slice A n c) n (l.map (Value.int .i64)) hs hown1
  ⟨W.heap.size, 0, none⟩ 1 1 [.int .i64 v] hx rfl ?_ (by simp [Value.oneCell']) (by simp only [maxLen]; omega) (by omega) hRw.size ?_
 ·
  intro j u hu
  match j with
  | 0 => simp at hu; subst hu; simp [Addr.add, go_sem]
  | j + 1 => simp at hu
 ·
  intro v' w' hown' hg _ hd
  rw [ownBlock_slice] at hg hd
  have hBw : Below R.heap.size R w' := below_grown hRw hg (fun k hk => (hown1.blk hk).1)
  obtain ⟨y, rfl⟩ := ext_ex hBw
  rcases hown'.2 with ⟨_, h0⟩ | ⟨g', cap, cur, rfl, hrest⟩
  ·
   omega
  ·
   rw [ownBlock_slice] at hd
   refine h _ _ y ?_ ((World.grownBy_alloc W _ _).trans hg) ?_
   ·
    have : (l ++ [v]).map (Value.int .i64) = l.map (Value.int .i64) ++ [.int .i64 v] := by simp
    unfold OwI Ow
    rw [this]
    exact hown'
   ·
    rcases hd with hd | hd
    ·
     exact .inl hd
    ·
     exact .inr ⟨_, hd, by simp⟩
end

def RetI (w : World) (l : List Int) (e : Ending) (w' : World) : Prop := ∃ A n c x, e = .returned (.slice A n c) ∧ w' = ext w x ∧ OwI w.heap.size (ext w x) A n c l
theorem RetI.mk_ {w W : World} {base : Nat} {A : Option Addr} {n c : Nat} {l : List Int} (ho : OwI base W A n c l) (hbase : w.heap.size ≤ base) (hb : Below w.heap.size w W) : RetI w l (.returned (.slice A n c)) W := by
 obtain ⟨x, rfl⟩ := ext_ex hb
 exact ⟨A, n, c, x, rfl, rfl, ho.mono hbase⟩
end Go.Proofs.YtmeaklaagglmeaaGreatDoor
