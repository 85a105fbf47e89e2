/- Plain words for memory: a world grown by new blocks (ext), a slice that reads as a list of cells (Rd), and their small lemmas. Conditions: none. -/
import Derived.Test.YtogglhgagblihaaRows
import Derived.WalkKit
import Derived.WalkSpells
import Derived.WalkLawsBesides
import Derived.Deep.QuietTactic
import Derived.BigQuiet
import Derived.BigGuardPart
import Derived.Deep.Draws
import Derived.CellFam
import Derived.Lib.Hide
import Derived.Maps.AppendAt
import Derived.Deep.AppendLies
import Derived.RegionTactic
import Derived.OwnWalk
import Derived.ProofKit
import Derived.OpenShut
import Derived.ShutString
import Derived.ChangeOld
import Derived.Lib.SmallJoins
import Derived.Deep.Slices
import Derived.Deep.Fields
import Derived.ChangeSame
import Derived.Laws.Bits64b
import Derived.Laws.Rows
set_option linter.unusedVariables false
set_option linter.unusedSimpArgs false
set_option maxRecDepth 100000
namespace Go.Proofs.Ytogglhgagblihaa
open Go.RowKit

/-- w with the blocks of x appended, and x's count of draws. -/
def ext (w x : World) : World := { heap := w.heap ++ x.heap, tape := w.tape, drawn := x.drawn, os := w.os, output := w.output }
theorem ext_size (w x : World) : (ext w x).heap.size = w.heap.size + x.heap.size := by simp [ext]
theorem ext_below (w x : World) : Below w.heap.size w (ext w x) :=
  ⟨rfl, rfl, rfl, by rw [ext_size]; omega, fun k hk => by simp [ext, Array.getElem?_append, hk]⟩
theorem ext_ex {w w' : World} (h : Below w.heap.size w w') : ∃ x, w' = ext w x := by
  refine ⟨{ w' with heap := w'.heap.extract w.heap.size w'.heap.size }, ?_⟩
  obtain ⟨h1, h2, h3, h4, h5⟩ := h
  cases w with | mk heap tape drawn os output =>
  cases w' with | mk heap' tape' drawn' os' output' =>
  simp only at h1 h2 h3 h4 h5
  subst h1 h2 h3
  simp only [ext, World.mk.injEq, and_true]
  apply Array.ext_getElem?
  intro i
  rw [Array.getElem?_append]
  split
  · rename_i hi
    exact h5 i hi
  · rename_i hi
    rw [Array.getElem?_extract]
    split
    · congr 1; omega
    · exact Array.getElem?_eq_none (by omega)
theorem ext_cell (w x : World) (b o : Nat) (s : Option Nat) (h : b < w.heap.size) : (ext w x).cell? ⟨b, o, s⟩ = w.cell? ⟨b, o, s⟩ := (ext_below w x).cell (p := ⟨b, o, s⟩) h
theorem ext_frozen (w x : World) (b o : Nat) (s : Option Nat) (h : b < w.heap.size) : (ext w x).frozen? ⟨b, o, s⟩ = w.frozen? ⟨b, o, s⟩ := (ext_below w x).frozen (p := ⟨b, o, s⟩) h
/-- Opaque remainders, so that a bound against a grown world is rewritten without a nested side condition. -/
def NewLt (w x : World) (b k : Nat) : Prop := ¬ b < w.heap.size + k ∧ b < w.heap.size + x.heap.size + k
def NewLe (w x : World) (b k : Nat) : Prop := ¬ b ≤ w.heap.size + k ∧ b ≤ w.heap.size + x.heap.size + k
theorem ext_lt (w x : World) (b : Nat) : (b < (ext w x).heap.size) = (b < w.heap.size ∨ NewLt w x b 0) := by
  rw [ext_size, NewLt]; apply propext; constructor <;> intro h <;> omega
theorem ext_ltk (w x : World) (b k : Nat) : (b < (ext w x).heap.size + k) = (b < w.heap.size + k ∨ NewLt w x b k) := by
  rw [ext_size, NewLt]; apply propext; constructor <;> intro h <;> omega
theorem ext_lek0 (w x : World) (b : Nat) : (b ≤ (ext w x).heap.size) = (b ≤ w.heap.size ∨ NewLe w x b 0) := by
  rw [ext_size, NewLe]; apply propext; constructor <;> intro h <;> omega
theorem ext_lek (w x : World) (b k : Nat) : (b ≤ (ext w x).heap.size + k) = (b ≤ w.heap.size + k ∨ NewLe w x b k) := by
  rw [ext_size, NewLe]; apply propext; constructor <;> intro h <;> omega
theorem lt_drew (w : World) (b : Nat) : (b < w.drew.heap.size) = (b < w.heap.size) := by
  have h : w.drew.heap.size = w.heap.size := rfl
  rw [h]
theorem lt_drewN (w : World) (b n : Nat) : (b < (w.drewN n).heap.size) = (b < w.heap.size) := by
  have h : (w.drewN n).heap.size = w.heap.size := rfl
  rw [h]
theorem ext_cell_drew (w x : World) (b o : Nat) (s : Option Nat) (h : b < w.heap.size) : (ext w.drew x).cell? ⟨b, o, s⟩ = w.cell? ⟨b, o, s⟩ := (ext_below w x).cell (p := ⟨b, o, s⟩) h
theorem ext_frozen_drew (w x : World) (b o : Nat) (s : Option Nat) (h : b < w.heap.size) : (ext w.drew x).frozen? ⟨b, o, s⟩ = w.frozen? ⟨b, o, s⟩ := (ext_below w x).frozen (p := ⟨b, o, s⟩) h
theorem ext_cell_drewN (w x : World) (n b o : Nat) (s : Option Nat) (h : b < w.heap.size) : (ext (w.drewN n) x).cell? ⟨b, o, s⟩ = w.cell? ⟨b, o, s⟩ := (ext_below w x).cell (p := ⟨b, o, s⟩) h
theorem ext_frozen_drewN (w x : World) (n b o : Nat) (s : Option Nat) (h : b < w.heap.size) : (ext (w.drewN n) x).frozen? ⟨b, o, s⟩ = w.frozen? ⟨b, o, s⟩ := (ext_below w x).frozen (p := ⟨b, o, s⟩) h
theorem ext_lt_drew (w x : World) (b : Nat) : (b < (ext w.drew x).heap.size) = (b < w.heap.size ∨ NewLt w x b 0) := ext_lt w x b
theorem ext_ltk_drew (w x : World) (b k : Nat) : (b < (ext w.drew x).heap.size + k) = (b < w.heap.size + k ∨ NewLt w x b k) := ext_ltk w x b k
theorem ext_lek0_drew (w x : World) (b : Nat) : (b ≤ (ext w.drew x).heap.size) = (b ≤ w.heap.size ∨ NewLe w x b 0) := ext_lek0 w x b
theorem ext_lek_drew (w x : World) (b k : Nat) : (b ≤ (ext w.drew x).heap.size + k) = (b ≤ w.heap.size + k ∨ NewLe w x b k) := ext_lek w x b k
theorem ext_lt_drewN (w x : World) (n b : Nat) : (b < (ext (w.drewN n) x).heap.size) = (b < w.heap.size ∨ NewLt w x b 0) := ext_lt w x b
theorem ext_ltk_drewN (w x : World) (n b k : Nat) : (b < (ext (w.drewN n) x).heap.size + k) = (b < w.heap.size + k ∨ NewLt w x b k) := ext_ltk w x b k
theorem ext_lek0_drewN (w x : World) (n b : Nat) : (b ≤ (ext (w.drewN n) x).heap.size) = (b ≤ w.heap.size ∨ NewLe w x b 0) := ext_lek0 w x b
theorem ext_lek_drewN (w x : World) (n b k : Nat) : (b ≤ (ext (w.drewN n) x).heap.size + k) = (b ≤ w.heap.size + k ∨ NewLe w x b k) := ext_lek w x b k
theorem ext_le (w x : World) : w.heap.size ≤ (ext w x).heap.size := (ext_below w x).size
theorem ext_self (w : World) : w = ext w { w with heap := #[] } := by cases w; simp [ext]
attribute [go_sem] ext_cell ext_frozen ext_lt ext_ltk ext_lek0 ext_lek ext_cell_drew ext_frozen_drew ext_lt_drew ext_ltk_drew ext_lek0_drew ext_lek_drew ext_cell_drewN ext_frozen_drewN ext_lt_drewN ext_ltk_drewN ext_lek0_drewN ext_lek_drewN

section
variable {a w : World}
theorem bExt (h : Below a.heap.size a w) (x : World) : Below a.heap.size a (ext w x) := h.trans ((ext_below w x).mono h.size)
theorem bAlloc (h : Below a.heap.size a w) (o : Obj) : Below a.heap.size a (w.alloc o) := h.alloc h.size o
theorem bDrew (h : Below a.heap.size a w) : Below a.heap.size a w.drew := h.drew
theorem bDrewN (h : Below a.heap.size a w) (n : Nat) : Below a.heap.size a (w.drewN n) := ⟨h.os, h.tape, h.output, h.size, h.block⟩
theorem bSet (h : Below a.heap.size a w) {p : Addr} (hp : a.heap.size ≤ p.block) (u : Value) : Below a.heap.size a (w.setCell p u) := h.setCell hp u
end

/-- A slice value with address A and n elements of s cells each reads as the cells xs. -/
def Rd (s : Nat) (w : World) (A : Option Addr) (n : Nat) (xs : List Value) : Prop :=
  xs.length = n * s ∧ (0 < n → ∃ b off, A = some ⟨b, off, none⟩ ∧ b < w.heap.size ∧ ∀ j u, xs[j]? = some u → w.cell? ⟨b, off + j, none⟩ = some u)
/-- A slice of ints reads as the list l. -/
def RdI (w : World) (A : Option Addr) (n : Nat) (l : List Int) : Prop := Rd 1 w A n (l.map (Value.int .i64))

section
variable {s n : Nat} {w w' : World} {A : Option Addr} {xs : List Value} {l : List Int}
theorem Rd.below (h : Rd s w A n xs) (hb : Below w.heap.size w w') : Rd s w' A n xs := by
  refine ⟨h.1, fun hn => ?_⟩
  obtain ⟨b, off, e, hlt, hc⟩ := h.2 hn
  exact ⟨b, off, e, Nat.lt_of_lt_of_le hlt hb.size, fun j u hu => (hb.cell (p := ⟨b, off + j, none⟩) hlt).trans (hc j u hu)⟩
theorem Rd.take_ (h : Rd s w A n xs) (k : Nat) (hk : k ≤ n) : Rd s w A k (xs.take (k * s)) := by
  refine ⟨?_, fun hn => ?_⟩
  · rw [List.length_take, h.1]
    exact Nat.min_eq_left (Nat.mul_le_mul_right s hk)
  · obtain ⟨b, off, e, hlt, hc⟩ := h.2 (by omega)
    refine ⟨b, off, e, hlt, fun j u hu => hc j u ?_⟩
    rw [List.getElem?_take] at hu
    split at hu
    · exact hu
    · cases hu
theorem RdI.below (h : RdI w A n l) (hb : Below w.heap.size w w') : RdI w' A n l := Rd.below h hb
theorem RdI.len (h : RdI w A n l) : l.length = n := by have := h.1; simpa using this
theorem RdI.open_ (h : RdI w A n l) (hn : 0 < n) : ∃ b off, A = some ⟨b, off, none⟩ ∧ b < w.heap.size ∧ ∀ j, j < n → w.cell? ⟨b, off + j, none⟩ = some (.int .i64 (l.getD j 0)) := by
  have hl := h.len
  obtain ⟨b, off, e, hlt, hc⟩ := h.2 hn
  refine ⟨b, off, e, hlt, fun j hj => hc j _ ?_⟩
  have hj' : j < l.length := by omega
  simp [List.getD, hj']
theorem RdI.take_ (h : RdI w A n l) (k : Nat) (hk : k ≤ n) : RdI w A k (l.take k) := by
  have := Rd.take_ h k hk
  unfold RdI
  rw [List.map_take]
  simpa using this
theorem RdI.nil_ : RdI w A 0 [] := ⟨by simp, fun h => absurd h (by omega)⟩
end
end Go.Proofs.Ytogglhgagblihaa
namespace Go.Proofs.Ytogglhgagblihaa
open Go.RowKit

def blkOf (A : Option Addr) : Option Nat := A.map (·.block)
theorem ownBlock_slice (A : Option Addr) (n c : Nat) : (Value.slice A n c).ownBlock = blkOf A := by cases A <;> rfl

/-- The slice (A, n, c) is nil, or a row of the call's own (a block from base on, elements of type e of s cells), and holds xs. -/
def Ow (e s base : Nat) (w : World) (A : Option Addr) (n c : Nat) (xs : List Value) : Prop := w.ownsRow base e s (.slice A n c) n xs

section
variable {e s base base' n c : Nat} {w w' : World} {A : Option Addr} {xs : List Value}
theorem grownBy_of_below {row : Option Nat} (h : Below w.heap.size w w') : w.grownBy w' row := ⟨h.os, h.tape, h.output, h.size, fun k hk _ => h.block k hk⟩
theorem gDrew {row : Option Nat} (h : w.grownBy w' row) : w.grownBy w'.drew row := ⟨h.os, h.tape, h.output, h.size, h.block⟩
theorem gDrewN {row : Option Nat} (h : w.grownBy w' row) (k : Nat) : w.grownBy (w'.drewN k) row := ⟨h.os, h.tape, h.output, h.size, h.block⟩
theorem Ow.len (h : Ow e s base w A n c xs) : xs.length = n * s := h.1
theorem Ow.below (h : Ow e s base w A n c xs) (hb : Below w.heap.size w w') : Ow e s base w' A n c xs := by
  refine World.ownsRow.kept h (grownBy_of_below (row := none) hb) ?_
  cases hv : (Value.slice A n c).ownBlock <;> simp
theorem Ow.kept {row : Option Nat} (h : Ow e s base w A n c xs) (hg : w.grownBy w' row) (hne : blkOf A = none ∨ blkOf A ≠ row) : Ow e s base w' A n c xs :=
  World.ownsRow.kept h hg (by rw [ownBlock_slice]; exact hne)
theorem Ow.mono (h : Ow e s base w A n c xs) (hb : base' ≤ base) : Ow e s base' w A n c xs := by
  refine ⟨h.1, ?_⟩
  rcases h.2 with h2 | ⟨g, cap, cur, hv, hg, r⟩
  · exact .inl h2
  · exact .inr ⟨g, cap, cur, hv, Nat.le_trans hb hg, r⟩
theorem Ow.nil_ : Ow e s base w none 0 0 [] := World.ownsRow_nil w base e s
theorem Ow.cap_ (h : Ow e s base w A n c xs) : n ≤ c ∧ c ≤ maxLen := by
  rcases h.2 with ⟨h2, _⟩ | ⟨g, cap, cur, hv, _, _, h3, h4, _⟩
  · simp at h2; obtain ⟨rfl, rfl, rfl⟩ := h2; simp [maxLen]
  · simp at hv; obtain ⟨_, rfl⟩ := hv; exact ⟨h3, h4⟩
theorem Ow.form_ (h : Ow e s base w A n c xs) (hn : 0 < n) : ∃ g, A = some ⟨g, 0, none⟩ ∧ base ≤ g ∧ g < w.heap.size := by
  rcases h.2 with ⟨_, h2⟩ | ⟨g, cap, cur, hv, hb, hg, _⟩
  · omega
  · simp at hv
    exact ⟨g, hv.1, hb, (Array.getElem?_eq_some_iff.1 hg).1⟩
theorem Ow.blk (h : Ow e s base w A n c xs) {g : Nat} (hA : blkOf A = some g) : base ≤ g ∧ g < w.heap.size :=
  World.ownsRow.lt h g (by rw [ownBlock_slice]; exact hA)
theorem Ow.rd (h : Ow e s base w A n c xs) : Rd s w A n xs := by
  refine ⟨h.1, fun hn => ?_⟩
  obtain ⟨g, rfl, hb, hlt⟩ := h.form_ hn
  refine ⟨g, 0, rfl, hlt, fun j u hu => ?_⟩
  have := World.ownsRow.cells h (g := g) rfl j u hu
  rw [Nat.zero_add]
  have hadd : (⟨g, 0, none⟩ : Addr).add j = ⟨g, j, none⟩ := by unfold Addr.add; split <;> simp_all
  rw [hadd] at this
  exact this
theorem below_grown {R : World} {row : Option Nat} (h : Below R.heap.size R w) (hg : w.grownBy w' row) (hr : ∀ k, row = some k → R.heap.size ≤ k) : Below R.heap.size R w' := h.grown hg h.size hr
end

theorem int_info : (Try.prog.info? 3).map (fun i => (i.zero, i.size, i.bytes)) = some (some (.int .i64 0), 1, 8) := by kernel_rfl

/-- A row of ints of the call's own. -/
def OwI (base : Nat) (w : World) (A : Option Addr) (n c : Nat) (l : List Int) : Prop := Ow 3 1 base w A n c (l.map (Value.int .i64))
section
variable {base base' n c : Nat} {w w' : World} {A : Option Addr} {l : List Int}
theorem OwI.len (h : OwI base w A n c l) : l.length = n := by have := Ow.len h; simpa using this
theorem OwI.below (h : OwI base w A n c l) (hb : Below w.heap.size w w') : OwI base w' A n c l := Ow.below h hb
theorem OwI.kept {row : Option Nat} (h : OwI base w A n c l) (hg : w.grownBy w' row) (hne : blkOf A = none ∨ blkOf A ≠ row) : OwI base w' A n c l := Ow.kept h hg hne
theorem OwI.mono (h : OwI base w A n c l) (hb : base' ≤ base) : OwI base' w A n c l := Ow.mono h hb
theorem OwI.nil_ : OwI base w none 0 0 [] := Ow.nil_
theorem OwI.rd (h : OwI base w A n c l) : RdI w A n l := Ow.rd h
theorem OwI.blk (h : OwI base w A n c l) {g : Nat} (hA : blkOf A = some g) : base ≤ g ∧ g < w.heap.size := Ow.blk h hA
theorem OwI.lit_ {R w : World} (hR : Below R.heap.size R w) (l : List Int) (hl : l.length ≤ maxLen) (cs : Array Value) (hcs : cs.toList = l.map (Value.int .i64)) :
    OwI R.heap.size (w.alloc (.cells cs 3)) (some ⟨w.heap.size, 0, none⟩) l.length l.length l := by
  have hs : cs.size = l.length * 1 := by rw [← Array.length_toList, hcs]; simp
  have := World.ownsRow_lit (base := R.heap.size) (e := 3) (size := 1) w cs l.length hR.size hl hs
  rw [hcs] at this
  exact this
end

theorem Ow.stored_ {e s base n c g : Nat} {w : World} {xs : List Value} (h : Ow e s base w (some ⟨g, 0, none⟩) n c xs) (j : Nat) (u : Value) :
    Ow e s base (w.setCell ⟨g, j, none⟩ u) (some ⟨g, 0, none⟩) n c (xs.set j u) ∧ w.grownBy (w.setCell ⟨g, j, none⟩ u) (some g) := World.ownsRow.stored h j u
theorem Ow.cell_ {e s base n c g : Nat} {w : World} {xs : List Value} (h : Ow e s base w (some ⟨g, 0, none⟩) n c xs) (j : Nat) (hj : j < n * s) : w.cell? ⟨g, j, none⟩ = xs[j]? := World.ownsRow.cellAt h j hj
theorem Ow.frozen_ {e s base n c g : Nat} {w : World} {xs : List Value} (h : Ow e s base w (some ⟨g, 0, none⟩) n c xs) (j : Nat) : w.frozen? ⟨g, j, none⟩ = false := World.ownsRow.frozenAt h j
theorem OwI.stored_ {base n c g : Nat} {w : World} {l : List Int} (h : OwI base w (some ⟨g, 0, none⟩) n c l) (j : Nat) (u : Int) :
    OwI base (w.setCell ⟨g, j, none⟩ (.int .i64 u)) (some ⟨g, 0, none⟩) n c (l.set j u) ∧ w.grownBy (w.setCell ⟨g, j, none⟩ (.int .i64 u)) (some g) := by
  have := Ow.stored_ h j (.int .i64 u)
  refine ⟨?_, this.2⟩
  unfold OwI
  rw [List.map_set]
  exact this.1
theorem OwI.cell_ {base n c g : Nat} {w : World} {l : List Int} (h : OwI base w (some ⟨g, 0, none⟩) n c l) (j : Nat) (hj : j < n) : w.cell? ⟨g, j, none⟩ = some (.int .i64 (l[j]?.getD 0)) := by
  have hl := h.len
  rw [Ow.cell_ h j (by omega)]
  simp [show j < l.length by omega]
theorem OwI.frozen_ {base n c g : Nat} {w : World} {l : List Int} (h : OwI base w (some ⟨g, 0, none⟩) n c l) (j : Nat) : w.frozen? ⟨g, j, none⟩ = false := Ow.frozen_ h j
theorem OwI.form_ {base n c : Nat} {w : World} {A : Option Addr} {l : List Int} (h : OwI base w A n c l) (hn : 0 < n) : ∃ g, A = some ⟨g, 0, none⟩ ∧ base ≤ g ∧ g < w.heap.size := Ow.form_ h hn

section
variable {ops : Array Oper} {rest : List Oper} {o : Oper} {a : Act} {Q : Exit → Act → World → Prop}
/-- append(s, v): one int onto a row of the call's own. R: the world of reference, W: the world before the one-cell block of v was made. -/
theorem wpl_push_int (R W : World) (v : Int) (gx : Nat) (hgx : gx = W.heap.size) (hgd : o.guard = none) (s x : Operand) (ho : o.op = .call { callee := .builtin .append, args := #[s, x], argTypes := #[28, 28] })
    (A : Option Addr) (n c : Nat) (l : List Int) (hs : a.eval s = .slice A n c) {W₀ : World} (hown₀ : OwI R.heap.size W₀ A n c l) (hW₀ : Below W₀.heap.size W₀ W) (hR : Below R.heap.size R W)
    (hx : a.eval x = .slice (some ⟨gx, 0, none⟩) 1 1) (hn : n ≤ 1099511627776)
    (h : ∀ A' c' y, OwI R.heap.size (ext R y) A' (n + 1) c' (l ++ [v]) → W.grownBy (ext R y) (blkOf A) → (blkOf A' = blkOf A ∨ ∃ g, blkOf A' = some g ∧ W.heap.size < g) → wpList Try.prog ops Q rest (a.put o.dst (.slice A' (n + 1) c')) (ext R y)) :
    wpList Try.prog ops Q (o :: rest) a (W.alloc (.cells #[.int .i64 v] 3)) := by
  subst hgx
  have hown := hown₀.below hW₀
  obtain ⟨i0, hi0, hz0, hz1, hz2⟩ := info_parts int_info
  have hRw : Below R.heap.size R (W.alloc (.cells #[.int .i64 v] 3)) := bAlloc hR _
  have hown1 := hown.below (bAlloc (Below.refl W.heap.size W) (.cells #[.int .i64 v] 3))
  refine wpList_append_own_at _ hgd s x _ ho R.heap.size 3 i0 (.int .i64 0) 1 8 Try.underlying28 hi0 hz0 hz1 hz2 rfl (by omega) (.slice A n c) n (l.map (Value.int .i64)) hs hown1
    ⟨W.heap.size, 0, none⟩ 1 1 [.int .i64 v] hx rfl ?_ (by simp [Value.oneCell']) (by simp only [maxLen]; omega) (by omega) hRw.size ?_
  · intro j u hu
    match j with
    | 0 => simp at hu; subst hu; simp [Addr.add, go_sem]
    | j + 1 => simp at hu
  · intro v' w' hown' hg _ hd
    rw [ownBlock_slice] at hg hd
    have hBw : Below R.heap.size R w' := below_grown hRw hg (fun k hk => (hown1.blk hk).1)
    obtain ⟨y, rfl⟩ := ext_ex hBw
    rcases hown'.2 with ⟨_, h0⟩ | ⟨g', cap, cur, rfl, hrest⟩
    · omega
    · rw [ownBlock_slice] at hd
      refine h _ _ y ?_ ((World.grownBy_alloc W _ _).trans hg) ?_
      · have : (l ++ [v]).map (Value.int .i64) = l.map (Value.int .i64) ++ [.int .i64 v] := by simp
        unfold OwI Ow
        rw [this]
        exact hown'
      · rcases hd with hd | hd
        · exact .inl hd
        · exact .inr ⟨_, hd, by simp⟩
end

/-- What a function that hands back a slice of ints in new memory ends with. -/
def RetI (w : World) (l : List Int) (e : Ending) (w' : World) : Prop := ∃ A n c x, e = .returned (.slice A n c) ∧ w' = ext w x ∧ OwI w.heap.size (ext w x) A n c l
theorem RetI.mk_ {w W : World} {base : Nat} {A : Option Addr} {n c : Nat} {l : List Int} (ho : OwI base W A n c l) (hbase : w.heap.size ≤ base) (hb : Below w.heap.size w W) : RetI w l (.returned (.slice A n c)) W := by
  obtain ⟨x, rfl⟩ := ext_ex hb
  exact ⟨A, n, c, x, rfl, rfl, ho.mono hbase⟩
/-- The same with an ok beside it. -/
def RetIB (w : World) (l : List Int) (ok : Bool) (e : Ending) (w' : World) : Prop := ∃ A n c x, e = .returned (.tuple #[.slice A n c, .bool ok]) ∧ w' = ext w x ∧ OwI w.heap.size (ext w x) A n c l
theorem RetIB.mk_ {w W : World} {base : Nat} {A : Option Addr} {n c : Nat} {l : List Int} {ok : Bool} (ho : OwI base W A n c l) (hbase : w.heap.size ≤ base) (hb : Below w.heap.size w W) : RetIB w l ok (.returned (.tuple #[.slice A n c, .bool ok])) W := by
  obtain ⟨x, rfl⟩ := ext_ex hb
  exact ⟨A, n, c, x, rfl, rfl, ho.mono hbase⟩
end Go.Proofs.Ytogglhgagblihaa
namespace Go.Proofs.Ytogglhgagblihaa
section
variable {α : Type} (d : α)
theorem take_succ_getD (l : List α) (k : Nat) (h : k < l.length) : l.take (k + 1) = l.take k ++ [l[k]?.getD d] := by
  rw [List.take_succ_eq_append_getElem h]; simp [h]
theorem getD_mem (l : List α) (k : Nat) (h : k < l.length) : l[k]?.getD d ∈ l := by simp [h]
theorem any_hit {P : α → Bool} {l : List α} {k : Nat} (h : k < l.length) (hp : P (l[k]?.getD d) = true) : l.any P = true := List.any_eq_true.2 ⟨_, getD_mem d l k h, hp⟩
theorem any_step {P : α → Bool} {l : List α} {k : Nat} (h : k < l.length) (ht : (l.take k).any P = false) (hp : P (l[k]?.getD d) = false) : (l.take (k + 1)).any P = false := by
  rw [take_succ_getD d l k h, List.any_append, ht]; simp only [List.any_cons, List.any_nil, Bool.or_false, Bool.false_or]; exact hp
theorem any_end {P : α → Bool} {l : List α} {k : Nat} (ht : (l.take k).any P = false) (h : l.length ≤ k) : l.any P = false := by
  rwa [List.take_of_length_le h] at ht
theorem all_miss {P : α → Bool} {l : List α} {k : Nat} (h : k < l.length) (hp : P (l[k]?.getD d) = false) : l.all P = false := by
  rw [Bool.eq_false_iff]; intro hh; have := List.all_eq_true.1 hh _ (getD_mem d l k h); rw [hp] at this; cases this
theorem all_step {P : α → Bool} {l : List α} {k : Nat} (h : k < l.length) (ht : (l.take k).all P = true) (hp : P (l[k]?.getD d) = true) : (l.take (k + 1)).all P = true := by
  rw [take_succ_getD d l k h, List.all_append, ht]; simp only [List.all_cons, List.all_nil, Bool.and_true]; exact hp
theorem all_end {P : α → Bool} {l : List α} {k : Nat} (ht : (l.take k).all P = true) (h : l.length ≤ k) : l.all P = true := by
  rwa [List.take_of_length_le h] at ht
end
theorem ret_int {a b : Int} (h : a = b) : Ending.returned (.int .i64 a) = .returned (.int .i64 b) := by rw [h]
theorem ret_bool {a b : Bool} (h : a = b) : Ending.returned (.bool a) = .returned (.bool b) := by rw [h]
theorem eq_take_ne {l r : List Int} {n k : Nat} (hl : l.length = n) (hr : r.length = n) (hk : k < n) (h : (l[k]?.getD 0 != r[k]?.getD 0) = true) : (l == r) = false := by
  rw [beq_eq_false_iff_ne]; rintro rfl; simp at h
theorem eq_take_step {l r : List Int} {n k : Nat} (hl : l.length = n) (hr : r.length = n) (hk : k < n) (ht : l.take k = r.take k) (h : (l[k]?.getD 0 != r[k]?.getD 0) = false) : l.take (k + 1) = r.take (k + 1) := by
  rw [take_succ_getD 0 l k (by omega), take_succ_getD 0 r k (by omega), ht]
  simp only [bne_eq_false_iff_eq] at h
  rw [h]
theorem eq_take_end {l r : List Int} {n k : Nat} (hl : l.length = n) (hr : r.length = n) (hk : n ≤ k) (ht : l.take k = r.take k) : (l == r) = true := by
  rw [List.take_of_length_le (by omega), List.take_of_length_le (by omega)] at ht
  subst ht; simp
theorem eq_len_ne {l r : List Int} (h : l.length ≠ r.length) : (l == r) = false := by
  rw [beq_eq_false_iff_ne]; rintro rfl; exact h rfl
/-- A copy under way: the first k of l, and zeros up to n. -/
def fillL {α : Type} (l : List α) (k n : Nat) (z : α) : List α := l.take k ++ List.replicate (n - k) z
section
variable {α : Type} (l : List α) (k n : Nat) (z : α)
theorem fillL_zero : fillL l 0 n z = List.replicate n z := by simp [fillL]
theorem fillL_end (h : l.length = n) : fillL l n n z = l := by subst h; simp [fillL]
theorem fillL_len (h : l.length = n) (hk : k ≤ n) : (fillL l k n z).length = n := by simp [fillL]; omega
theorem fillL_step (h : l.length = n) (hk : k < n) : (fillL l k n z).set k (l[k]?.getD z) = fillL l (k + 1) n z := by
  unfold fillL
  have hl : (l.take k).length = k := by simp; omega
  rw [List.set_append_right _ _ (by omega), hl, Nat.sub_self, take_succ_getD z l k (by omega)]
  obtain ⟨m, hm⟩ : ∃ m, n - k = m + 1 := ⟨n - k - 1, by omega⟩
  have : n - (k + 1) = m := by omega
  rw [hm, this, List.replicate_succ]
  simp
end
/-- The first index below n that answers yes, and whether there is one. -/
def firstIdx (p : Nat → Bool) (n : Nat) : Nat × Bool := match (List.range n).find? p with
  | some i => (i, true)
  | none => (0, false)
theorem firstIdx_hit {p : Nat → Bool} {n k : Nat} (hk : k < n) (hb : ∀ j, j < k → p j = false) (h : p k = true) : firstIdx p n = (k, true) := by
  have : (List.range n).find? p = some k := by
    rw [List.find?_range_eq_some]
    exact ⟨h, by simpa using hk, fun j hj => by rw [hb j hj]; rfl⟩
  rw [firstIdx, this]
theorem firstIdx_none {p : Nat → Bool} {n : Nat} (h : ∀ j, j < n → p j = false) : firstIdx p n = (0, false) := by
  have : (List.range n).find? p = none := by
    rw [List.find?_eq_none]
    intro x hx
    rw [h x (by simpa using hx)]
    simp
  rw [firstIdx, this]
theorem firstIdx_congr {p q : Nat → Bool} {n : Nat} (h : ∀ j, j < n → p j = q j) : firstIdx p n = firstIdx q n := by
  have : (List.range n).find? p = (List.range n).find? q := by
    have hh : ∀ l : List Nat, (∀ x ∈ l, p x = q x) → l.find? p = l.find? q := by
      intro l
      induction l with
      | nil => intro _; rfl
      | cons a r ih =>
        intro hl
        rw [List.find?_cons, List.find?_cons, hl a (by simp), ih (fun x hx => hl x (by simp [hx]))]
    exact hh _ (fun x hx => h x (by simpa using hx))
  rw [firstIdx, firstIdx, this]
end Go.Proofs.Ytogglhgagblihaa
namespace Go.Proofs.Ytogglhgagblihaa
open Go.RowKit

def inB (a lo hi : Int) : Bool := decide (lo ≤ a) && decide (a ≤ hi)
theorem inB_iff {a lo hi : Int} : inB a lo hi = true ↔ lo ≤ a ∧ a ≤ hi := by simp [inB]
theorem inB_not {a lo hi : Int} : inB a lo hi = false ↔ ¬ (lo ≤ a ∧ a ≤ hi) := by rw [← inB_iff]; simp
set_option maxHeartbeats 400000 in
theorem l1In_any (a lo hi : Int) (w : World) :
    Calls Try.prog 71 #[.int .i64 a, .int .i64 lo, .int .i64 hi] w fun e w' => e = .returned (.bool (inB a lo hi)) ∧ w = w' := by
  unfold inB
  by_cases h1 : lo ≤ a <;> by_cases h2 : a ≤ hi
  all_goals
    go_enter Try.func71, Try.ntmps71
    go_wp2
    go_ret
    simp [h1, h2]
set_option maxHeartbeats 400000 in
theorem within_any (a lo hi : Int) (w : World) :
    Calls Try.prog 72 #[.int .i64 a, .int .i64 lo, .int .i64 hi] w fun e w' => e = .returned (.bool (inB a lo hi)) ∧ w = w' := by
  unfold inB
  by_cases h1 : lo ≤ a <;> by_cases h2 : a ≤ hi
  all_goals
    go_enter Try.func72, Try.ntmps72
    go_wp2
    go_ret
    simp [h1, h2]
theorem l1Most_any (a b : Int) (w : World) :
    Calls Try.prog 121 #[.int .i64 a, .int .i64 b] w fun e w' => e = .returned (.int .i64 (max a b)) ∧ w = w' := by
  by_cases h1 : b < a
  all_goals
    go_enter Try.func121, Try.ntmps121
    go_wp2
    go_ret
    exact ⟨congrArg (fun z => Ending.returned (.int .i64 z)) (by omega), rfl⟩
theorem l1Least_any (a b : Int) (w : World) :
    Calls Try.prog 120 #[.int .i64 a, .int .i64 b] w fun e w' => e = .returned (.int .i64 (min a b)) ∧ w = w' := by
  by_cases h1 : a < b
  all_goals
    go_enter Try.func120, Try.ntmps120
    go_wp2
    go_ret
    exact ⟨congrArg (fun z => Ending.returned (.int .i64 z)) (by omega), rfl⟩
def absI (a : Int) : Int := max a (-a)
theorem l1Abs_any (a : Int) (w : World) (h : -4611686018427387904 ≤ a) (h' : a ≤ 4611686018427387904) :
    Calls Try.prog 102 #[.int .i64 a] w fun e w' => e = .returned (.int .i64 (absI a)) ∧ w = w' := by
  go_enter Try.func102, Try.ntmps102
  go_wp2_with (go_at_call 121; ((with_reducible refine (l1Most_any _ _ _).mono ?_); rintro e w' ⟨rfl, rfl⟩))
  go_ret
  exact ⟨rfl, rfl⟩
def hasB (l : List Int) (x : Int) : Bool := l.any (· == x)
theorem hasB_iff {l : List Int} {x : Int} : hasB l x = true ↔ x ∈ l := by simp [hasB]
set_option maxHeartbeats 400000 in
theorem l1Has_any (w : World) (A : Option Addr) (n c : Nat) (l : List Int) (x : Int) (ha : RdI w A n l) (hn : n ≤ 1099511627776) :
    Calls Try.prog 119 #[.slice A n c, .int .i64 x] w fun e w' => e = .returned (.bool (hasB l x)) ∧ w = w' := by
  have Hl := Lib.hid ha.len
  unfold hasB
  go_enter Try.func119, Try.ntmps119
  go_wp2
  go_loop [6, 9] (fun _ i => ∃ k : Nat, k ≤ n ∧ i = .int .i64 k ∧ Hid ((l.take k).any (· == x) = false)) (fun _ i => n - (intOf i).toNat)
  case atStart => exact ⟨0, by omega, rfl, rfl⟩
  case round =>
    obtain ⟨k, hk, rfl, HT⟩ := hrel
    by_cases hlt : k < n
    · obtain ⟨b, off, rfl, hb, hc⟩ := ha.open_ (by omega)
      go_wp2
      · go_ret
        exact ⟨ret_bool (any_hit 0 (by rw [Hl.out]; exact hlt) ‹_›).symm, rfl⟩
      · go_round
        case rel => exact ⟨k + 1, by omega, by go_num, any_step 0 (by rw [Hl.out]; exact hlt) HT.out ‹_›⟩
        case measure => simp [intOf]; omega
    · go_wp2
      go_ret
      exact ⟨ret_bool (any_end HT.out (by rw [Hl.out]; omega)).symm, rfl⟩
end Go.Proofs.Ytogglhgagblihaa
namespace Go.Proofs.Ytogglhgagblihaa
open Go.ChangeShapes Go.WideShapes Go.ChangeAt Go.RowKit

theorem ownKnobNone : ownKnob Try.prog.godebug = none := by kernel_rfl
theorem laidOutAll : laidOutB Try.prog = true := by kernel_rfl

def tsOk (P : Program) (ts : List TypeId) : Prop := (ts.all fun t => P.readableRec t && decide (t < P.types.size)) = true
theorem trodAll_below {P : Program} (hl : laidOutB P = true) {H : Type} {enc : TypeId × Value → H} {W W' : World} (hb : Below W.heap.size W W') : ∀ (ts : List TypeId) (vs : List Value) (ds : List (DataW H)) (ps : List MemPlace), tsOk P ts →
    DataW.TrodAll enc P W 0 (fun _ => true) true ts vs ds ps → DataW.TrodAll enc P W' 0 (fun b => decide (b < W.heap.size)) true ts vs ds ps := by
  intro ts
  induction ts with
  | nil =>
    intro vs ds ps _ h
    cases vs <;> cases ds <;> first | exact h | exact h.elim
  | cons t ts ih =>
    intro vs ds ps hts h
    cases vs with
    | nil => exact h.elim
    | cons v vs =>
      cases ds with
      | nil => exact h.elim
      | cons d ds =>
        obtain ⟨p, q, h1, h2, e⟩ := h
        simp only [tsOk, List.all_cons, Bool.and_eq_true, decide_eq_true_eq] at hts
        have lt1 : ∀ x ∈ p, x.block < W.heap.size := by obtain ⟨m, hm⟩ := h1; exact DataW.trod_lt m _ _ _ hm
        exact ⟨p, q, Below.trod hl hts.1.1 hts.1.2 h1 hb lt1, ih _ _ _ hts.2 h2, e⟩

theorem wfI {x : Int} (h : (Lit.int .i64 x).wf = true) : -9223372036854775808 ≤ x ∧ x ≤ 9223372036854775807 := by
  have := bounds_i64 h; exact this

section
open Go.Deep
section
variable {H : Type} {enc : TypeId × Value → H} {P : Program} {w : World} {base : Nat} {spare : Nat → Bool} {held : Bool}
theorem open_slice_fields {t e : TypeId} {fs : Array Field} {fuel : Nat} {cs : List Value} {x : DataW H × List MemPlace} (ht : P.underlying t = some (.slice e)) (he : P.underlying e = some (.struct fs))
    (hone : oneCellFields P fs = true) (hC : P.cellsOf e = fs.size) (h : DataW.trod enc P w base spare held fuel t cs = some x) :
    (cs = [.slice none 0 0] ∧ x = (.nil, [])) ∨
    ∃ (a : Addr) (len cap m : Nat) (D : Nat → DataW H) (Pl : Nat → List MemPlace), cs = [.slice (some a) len cap] ∧ base ≤ a.block ∧ len ≤ cap ∧ cap ≤ maxLen ∧ m = (if spare a.block then cap else len) ∧
      x = (.slice ((List.range len).map D) ((List.range (m - len)).map fun j => D (len + j)), MemPlace.row a (m * fs.size) ++ (List.range m).flatMap Pl) ∧
      ∀ i, i < m → ∃ (ys : List (DataW H × List MemPlace)) (n : Nat), D i = .agg (ys.map (·.1)) ∧ Pl i = ys.flatMap (·.2) ∧ ys.length = fs.size ∧
        ∀ (j : Nat) (f : Field), fs[j]? = some f → ∃ (v : Value) (y : DataW H × List MemPlace), w.cell? (a.add (i * fs.size + j)) = some v ∧ ys[j]? = some y ∧ DataW.trod enc P w base spare held n f.type [v] = some y := by
  rcases open_slice ht h with h0 | ⟨a, len, cap, m, n, D, Pl, hcs, hb, hl, hm, hmm, hx, hi⟩
  · exact .inl h0
  · refine .inr ⟨a, len, cap, m, D, Pl, hcs, hb, hl, hm, hmm, by rw [hC] at hx; exact hx, fun i him => ?_⟩
    obtain ⟨cs', hc, ht'⟩ := hi i him
    rw [hC] at hc
    obtain ⟨ys, n', hn', hy, hlen, hyl, hf⟩ := DataW.trod_struct he ht'
    obtain ⟨_, hcl, hat⟩ := World.cells?_some hc
    simp only [Prod.mk.injEq] at hy
    refine ⟨ys, n', hy.1, hy.2, hyl, fun j f hj => ?_⟩
    obtain ⟨ho, hk⟩ := hone_of hone j f hj
    have hjl : j < fs.size := (Array.getElem?_eq_some_iff.1 hj).1
    have hcell := hat j hjl
    have hv : cs'[j]? = some (cs'[j]'(by omega)) := List.getElem?_eq_getElem (by omega)
    have h1 := hf j f hj
    rw [ho, hk] at h1
    have hone' : (cs'.drop j).take 1 = [cs'[j]'(by omega)] := by
      rw [List.drop_eq_getElem_cons (by omega)]
      rfl
    rw [hone'] at h1
    have hys : ys[j]? = some (ys[j]'(by omega)) := List.getElem?_eq_getElem (by omega)
    refine ⟨_, _, ?_, hys, h1.trans hys⟩
    rw [← Go.Deep.add_add, hcell, hv]
end

/-- A slice of structs whose m fields are all ints, that came in. -/
theorem open_rows {H : Type} {enc : TypeId × Value → H} {P : Program} {W : World} {r : Reach} {base : Nat} {v : Value} {d : DataW H} {p : List MemPlace} {t e i : TypeId} {fs : Array Field}
    (ht : P.underlying t = some (.slice e)) (he : P.underlying e = some (.struct fs)) (hi : P.underlying i = some (.int .i64)) (hone : oneCellFields P fs = true) (hC : P.cellsOf e = fs.size)
    (hfs : ∀ (j : Nat) (f : Field), fs[j]? = some f → f.type = i) (hpos : 0 < fs.size)
    (hv : Value.okWide P W r base t v) (h : DataW.Trod enc P W 0 (fun _ => true) true t v d p) :
    ∃ A n c, ∃ L : List (List Int), v = .slice A n c ∧ n ≤ c ∧ c ≤ maxLen ∧ L.length = n ∧ (∀ row ∈ L, row.length = fs.size ∧ ∀ x ∈ row, -9223372036854775808 ≤ x ∧ x ≤ 9223372036854775807) ∧
      (0 < n → ∃ b off, A = some ⟨b, off, none⟩ ∧ b < W.heap.size ∧ ∀ k j, k < n → j < fs.size → W.cell? ⟨b, off + (k * fs.size + j), none⟩ = some (.int .i64 ((L[k]?.getD [])[j]?.getD 0))) := by
  obtain ⟨a0, len, cap, rfl⟩ := okWide_slice ht hv
  obtain ⟨fuel, hf⟩ := h
  rcases open_slice_fields ht he hone hC hf with ⟨hcs, _⟩ | ⟨a, l, c, m, D, Pl, hcs, _, hl, hm, hmm, _, hD⟩
  · simp [Value.cells] at hcs
    obtain ⟨rfl, rfl, rfl⟩ := hcs
    exact ⟨none, 0, 0, [], rfl, Nat.le_refl _, by simp [maxLen], rfl, by simp, fun h => absurd h (by omega)⟩
  · simp [Value.cells] at hcs
    obtain ⟨rfl, rfl, rfl⟩ := hcs
    simp at hmm
    subst hmm
    have hcell : ∀ k j, k < m → j < fs.size → ∃ x : Int, W.cell? (a.add (k * fs.size + j)) = some (.int .i64 x) ∧ (Lit.int .i64 x).wf = true := by
      intro k j hk hj
      obtain ⟨ys, n', _, _, _, hff⟩ := hD k hk
      obtain ⟨u, y, hu, _, htr⟩ := hff j fs[j] (by simp [hj])
      rw [hfs j fs[j] (by simp [hj])] at htr
      obtain ⟨x, e1, _, w1⟩ := DataW.trod_int hi htr
      simp at e1
      subst e1
      exact ⟨x, hu, w1⟩
    have hrow : ∀ k, k < m → ∃ row : List Int, row.length = fs.size ∧ (∀ j, j < fs.size → W.cell? (a.add (k * fs.size + j)) = some (.int .i64 (row[j]?.getD 0))) ∧ ∀ x ∈ row, -9223372036854775808 ≤ x ∧ x ≤ 9223372036854775807 := by
      intro k hk
      have hx : ∀ j, ∃ x : Int, j < fs.size → (W.cell? (a.add (k * fs.size + j)) = some (.int .i64 x) ∧ (Lit.int .i64 x).wf = true) := fun j => by
        by_cases hj : j < fs.size
        · obtain ⟨x, hx⟩ := hcell k j hk hj; exact ⟨x, fun _ => hx⟩
        · exact ⟨0, fun h => absurd h hj⟩
      have hx' := Classical.axiomOfChoice hx
      obtain ⟨f, hf⟩ := hx'
      refine ⟨(List.range fs.size).map f, by simp, fun j hj => ?_, fun x hxm => ?_⟩
      · rw [(hf j hj).1]; simp [hj]
      · simp only [List.mem_map, List.mem_range] at hxm
        obtain ⟨j, hj, rfl⟩ := hxm
        exact wfI (hf j hj).2
    have hrow' : ∀ k, ∃ row : List Int, k < m → (row.length = fs.size ∧ (∀ j, j < fs.size → W.cell? (a.add (k * fs.size + j)) = some (.int .i64 (row[j]?.getD 0))) ∧ ∀ x ∈ row, -9223372036854775808 ≤ x ∧ x ≤ 9223372036854775807) := fun k => by
      by_cases hk : k < m
      · obtain ⟨row, hr⟩ := hrow k hk; exact ⟨row, fun _ => hr⟩
      · exact ⟨[], fun h => absurd h hk⟩
    obtain ⟨R, hR⟩ := Classical.axiomOfChoice hrow'
    refine ⟨some a, len, m, (List.range len).map R, rfl, hl, hm, by simp, fun row hr => ?_, fun hn => ?_⟩
    · simp only [List.mem_map, List.mem_range] at hr
      obtain ⟨k, hk, rfl⟩ := hr
      exact ⟨(hR k (by omega)).1, (hR k (by omega)).2.2⟩
    · obtain ⟨b, off, spot⟩ := a
      have hc := (hR 0 (by omega)).2.1 0 hpos
      have hspot : spot = none := by simpa [Addr.add] using World.cell?_spot hc
      subst hspot
      have hb : b < W.heap.size := World.block_lt_of_cell? W _ (by simpa [Addr.add] using hc)
      refine ⟨b, off, rfl, hb, fun k j hk hj => ?_⟩
      have h2 := (hR k (by omega)).2.1 j hj
      have hadd : (⟨b, off, none⟩ : Addr).add (k * fs.size + j) = ⟨b, off + (k * fs.size + j), none⟩ := by unfold Addr.add; split <;> simp_all
      rw [hadd] at h2
      rw [h2]
      simp [hk]
end
/-- A slice of ints that came in. -/
theorem open_RdI {H : Type} {enc : TypeId × Value → H} {W : World} {r : Reach} {base : Nat} {v : Value} {d : DataW H} {p : List MemPlace}
    (hv : Value.okWide Try.prog W r base 28 v) (h : DataW.Trod enc Try.prog W 0 (fun _ => true) true 28 v d p) :
    ∃ A n c l, v = .slice A n c ∧ RdI W A n l ∧ n ≤ c ∧ c ≤ maxLen ∧ ∀ x ∈ l, -9223372036854775808 ≤ x ∧ x ≤ 9223372036854775807 := by
  obtain ⟨a0, len, cap, rfl⟩ := okWide_slice Try.underlying28 hv
  obtain ⟨fuel, hf⟩ := h
  rcases open_ints Try.underlying28 Try.underlying3 (by kernel_rfl) hf with ⟨hcs, _⟩ | ⟨x, l, c, zs, hcs, _, hl, hm, hz, _, hcell, hwz⟩
  · simp [Value.cells] at hcs
    obtain ⟨rfl, rfl, rfl⟩ := hcs
    exact ⟨none, 0, 0, [], rfl, RdI.nil_, Nat.le_refl _, by simp [maxLen], by simp⟩
  · simp [Value.cells] at hcs
    obtain ⟨rfl, rfl, rfl⟩ := hcs
    refine ⟨some x, len, cap, zs.take len, rfl, ⟨?_, fun hn => ?_⟩, hl, hm, fun y hy => wfI (hwz y (List.mem_of_mem_take hy))⟩
    · simp; simp at hz; omega
    · obtain ⟨b, off, spot⟩ := x
      have hzl : zs.length = cap := by simpa using hz
      have hc := hcell 0 (by omega)
      have hspot : spot = none := by simpa [Addr.add] using World.cell?_spot hc
      subst hspot
      have hb : b < W.heap.size := World.block_lt_of_cell? W _ (by simpa [Addr.add] using hc)
      refine ⟨b, off, rfl, hb, fun j u hu => ?_⟩
      simp only [List.getElem?_map, Option.map_eq_some_iff] at hu
      obtain ⟨y, hy, rfl⟩ := hu
      have hj : j < zs.length := by
        have := (List.getElem?_eq_some_iff.1 hy).1
        simp at this; omega
      have h2 := hcell j hj
      have hadd : (⟨b, off, none⟩ : Addr).add j = ⟨b, off + j, none⟩ := by unfold Addr.add; split <;> simp_all
      rw [hadd] at h2
      rw [h2]
      have : zs.getD j 0 = y := by
        rw [List.getElem?_take] at hy
        split at hy
        · simp [List.getD, hy]
        · cases hy
      rw [this]
end Go.Proofs.Ytogglhgagblihaa
namespace Go.Proofs.Ytogglhgagblihaa
open Go.RowKit
theorem base_le {R W : World} (h : Below R.heap.size R W) : R.heap.size ≤ W.heap.size := h.size
theorem OwI.cap_ {base n c : Nat} {w : World} {A : Option Addr} {l : List Int} (h : OwI base w A n c l) : n ≤ c ∧ c ≤ maxLen := Ow.cap_ h
theorem bdI {base n c : Nat} {w : World} {A : Option Addr} {l : List Int} (h : OwI base w A n c l) (hl : l.length ≤ 1048576) : n ≤ 1099511627776 := by have := h.len; omega
section
variable {e s base n c e' s' n' c' : Nat} {W W' : World} {A B : Option Addr} {xs ys : List Value}
theorem ne_before (hY : Ow e s base W A n c xs) (hX : Ow e' s' W.heap.size W' B n' c' ys) : blkOf A = none ∨ blkOf A ≠ blkOf B := by
  cases hA : blkOf A with
  | none => exact .inl rfl
  | some g =>
    refine .inr fun h => ?_
    have h1 := (hY.blk hA).2
    have h2 := (hX.blk h.symm).1
    omega
theorem ne_after (hX : Ow e s base W A n c xs) (hY : Ow e' s' W.heap.size W' B n' c' ys) : blkOf B = none ∨ blkOf B ≠ blkOf A := by
  cases hB : blkOf B with
  | none => exact .inl rfl
  | some g =>
    refine .inr fun h => ?_
    have h1 := (hX.blk h.symm).2
    have h2 := (hY.blk hB).1
    omega
end
end Go.Proofs.Ytogglhgagblihaa
namespace Go.Proofs.Ytogglhgagblihaa
open Go.RowKit
section
variable {P : Program} (w : World)
theorem run_append_of_nil (base : Nat) (t ty e : TypeId) (i : TypeInfo) (size : Nat) (ht : P.underlying t = some (.slice e)) (hi : P.info? e = some i)
    (v : Value) (n : Nat) (xs : List Value) (hown : w.ownsRow base e size v n xs) (c : Nat) : (Builtin.append_ #[t, t] ty #[v, .slice none 0 c]).run P w = .ok v w := by
  rcases hown.2 with ⟨rfl, rfl⟩ | ⟨g, cap, cur, rfl, _, _, hnc, _⟩
  · simp [Builtin.append_, run_underlying ht, sizeOf, typeInfo, hi, Builtin.lenOf, Builtin.firstCells]
  · simp [Builtin.append_, run_underlying ht, sizeOf, typeInfo, hi, Builtin.lenOf, Builtin.firstCells, hnc, storeCells]
/-- append(v, source...), the source nil, empty or not. -/
theorem run_append_rd (base : Nat) (t ty e : TypeId) (i : TypeInfo) (z : Value) (size bytes : Nat) (ht : P.underlying t = some (.slice e)) (hi : P.info? e = some i) (hz : i.zero = some z)
    (hsize : i.size = size) (hby : i.bytes = bytes) (hzs : z.cells.size = size) (hsz : 0 < size)
    (v : Value) (n : Nat) (xs : List Value) (hown : w.ownsRow base e size v n xs)
    (A : Option Addr) (m c : Nat) (news : List Value) (hr : Rd size w A m news) (h1 : ∀ u ∈ news, u.oneCell' = true)
    (h63 : n + m ≤ maxLen) (hbytes : (n + m) * bytes ≤ 140737488355328) (hbase : base ≤ w.heap.size) :
    ∃ v' w', (Builtin.append_ #[t, t] ty #[v, .slice A m c]).run P w = .ok v' w' ∧ w'.ownsRow base e size v' (n + m) (xs ++ news) ∧ w.grownBy w' v.ownBlock ∧
      (v'.ownBlock = v.ownBlock ∨ v'.ownBlock = some w.heap.size) := by
  rcases A with _ | ad
  · have hm : m = 0 := by
      rcases Nat.eq_zero_or_pos m with h0 | h0
      · exact h0
      · obtain ⟨b, off, h, _⟩ := hr.2 h0
        cases h
    subst hm
    have hn : news = [] := List.eq_nil_of_length_eq_zero (by simpa using hr.1)
    subst hn
    exact ⟨v, w, run_append_of_nil w base t ty e i size ht hi v n xs hown c, by simpa using hown, World.grownBy.refl w _, .inl rfl⟩
  · have hcells : ∀ j u, news[j]? = some u → w.cell? (ad.add j) = some u := by
      intro j u hu
      rcases Nat.eq_zero_or_pos m with h0 | h0
      · subst h0
        have hn : news = [] := List.eq_nil_of_length_eq_zero (by simpa using hr.1)
        subst hn
        simp at hu
      · obtain ⟨b, off, h, _, hc⟩ := hr.2 h0
        injection h with h
        subst h
        have hadd : (⟨b, off, none⟩ : Addr).add j = ⟨b, off + j, none⟩ := by unfold Addr.add; split <;> simp_all
        rw [hadd]
        exact hc j u hu
    obtain ⟨v', w', hrun, h2, h3, _, h5⟩ := run_append_own_at (P := P) w base t ty e i z size bytes ht hi hz hsize hby hzs hsz v n xs hown ad m c news hr.1 hcells h1 h63 hbytes hbase
    exact ⟨v', w', hrun, h2, h3, h5⟩
end
/-- append(s, source...) onto a row of ints of the call's own. -/
theorem wpl_app_int {ops : Array Oper} {rest : List Oper} {o : Oper} {a : Act} {Q : Exit → Act → World → Prop} (R : World) {W : World} (hgd : o.guard = none) (s x : Operand) (ho : o.op = .call { callee := .builtin .append, args := #[s, x], argTypes := #[28, 28] })
    (A : Option Addr) (n c : Nat) (l : List Int) (hs : a.eval s = .slice A n c) {W₀ : World} (hown₀ : OwI R.heap.size W₀ A n c l) (hW₀ : Below W₀.heap.size W₀ W) (hR : Below R.heap.size R W)
    (B : Option Addr) (m d : Nat) (r : List Int) (hx : a.eval x = .slice B m d) {W₁ : World} (hr₁ : RdI W₁ B m r) (hW₁ : Below W₁.heap.size W₁ W) (hn : n + m ≤ 1099511627776)
    (h : ∀ A' c' y, OwI R.heap.size (ext R y) A' (n + m) c' (l ++ r) → W.grownBy (ext R y) (blkOf A) → (blkOf A' = blkOf A ∨ blkOf A' = some W.heap.size) → wpList Try.prog ops Q rest (a.put o.dst (.slice A' (n + m) c')) (ext R y)) :
    wpList Try.prog ops Q (o :: rest) a W := by
  have hown := hown₀.below hW₀
  have hr := hr₁.below hW₁
  obtain ⟨i0, hi0, hz0, hz1, hz2⟩ := info_parts int_info
  obtain ⟨v', w', hrun, h2, h3, h4⟩ := run_append_rd (P := Try.prog) W R.heap.size 28 o.type 3 i0 (.int .i64 0) 1 8 Try.underlying28 hi0 hz0 hz1 hz2 rfl (by omega) (.slice A n c) n (l.map (Value.int .i64)) hown B m d (r.map (Value.int .i64)) hr
    (by intro u hu; simp only [List.mem_map] at hu; obtain ⟨z, _, rfl⟩ := hu; rfl) (by simp only [maxLen]; omega) (by omega) hR.size
  refine wpList_plain hgd fun K hK => ?_
  unfold Oper.wp execOp
  simp only [ho, resolve, invoke, builtin, Sem.run_bind, Sem.run_pure, Result.andThen_ok, List.map_toArray, List.map_cons, List.map_nil, hs, hx, hrun]
  rw [ownBlock_slice] at h3 h4
  have hBw : Below R.heap.size R w' := below_grown hR h3 (fun k hk => (hown.blk hk).1)
  obtain ⟨y, rfl⟩ := ext_ex hBw
  have hm : l.map (Value.int .i64) ++ r.map (Value.int .i64) = (l ++ r).map (Value.int .i64) := by simp
  rw [hm] at h2
  rcases h2.2 with ⟨hv, h0⟩ | ⟨g', cap, cur, hv, hrest⟩
  · subst hv
    rw [ownBlock_slice] at h4
    have e : Value.slice none 0 0 = .slice none (n + m) 0 := by rw [h0]
    rw [e] at h2 ⊢
    exact hK _ _ (h none 0 y h2 h3 h4)
  · subst hv
    rw [ownBlock_slice] at h4
    exact hK _ _ (h _ _ y h2 h3 h4)
def allB (l : List Int) (lo hi : Int) : Bool := l.all fun x => inB x lo hi
theorem allB_of {l : List Int} {lo hi : Int} (h : allB l lo hi = true) : ∀ x ∈ l, lo ≤ x ∧ x ≤ hi := fun x hx => inB_iff.1 (List.all_eq_true.1 h x hx)
theorem allB_get {l : List Int} {lo hi : Int} (h : allB l lo hi = true) (k : Nat) (hk : k < l.length) : lo ≤ l[k]?.getD 0 ∧ l[k]?.getD 0 ≤ hi := allB_of h _ (getD_mem 0 l k hk)
def sameB (l r : List Int) : Bool := l == r
theorem sameB_iff {l r : List Int} : sameB l r = true ↔ l = r := by simp [sameB]
set_option maxHeartbeats 400000 in
theorem l1All_any (w : World) (A : Option Addr) (n c : Nat) (l : List Int) (lo hi : Int) (ha : RdI w A n l) (hn : n ≤ 1099511627776) :
    Calls Try.prog 125 #[.slice A n c, .int .i64 lo, .int .i64 hi] w fun e w' => e = .returned (.bool (allB l lo hi)) ∧ w = w' := by
  have Hl := Lib.hid ha.len
  unfold allB
  go_enter Try.func125, Try.ntmps125
  go_wp2
  go_loop [8, 11] (fun _ i => ∃ k : Nat, k ≤ n ∧ i = .int .i64 k ∧ Hid ((l.take k).all (fun x => inB x lo hi) = true)) (fun _ i => n - (intOf i).toNat)
  case atStart => exact ⟨0, by omega, rfl, rfl⟩
  case round =>
    obtain ⟨k, hk, rfl, HT⟩ := hrel
    by_cases hlt : k < n
    · obtain ⟨b, off, rfl, hb, hc⟩ := ha.open_ (by omega)
      go_wp2_with (go_at_call 71; ((with_reducible refine (l1In_any _ _ _ _).mono ?_); rintro e w' ⟨rfl, rfl⟩))
      · have hh : (!inB (l[k]?.getD 0) lo hi) = true := by assumption
        go_ret
        exact ⟨ret_bool (all_miss 0 (by rw [Hl.out]; exact hlt) (by simpa using hh)).symm, rfl⟩
      · have hh : (!inB (l[k]?.getD 0) lo hi) = false := by assumption
        go_round
        case rel => exact ⟨k + 1, by omega, by go_num, all_step 0 (by rw [Hl.out]; exact hlt) HT.out (by simpa using hh)⟩
        case measure => simp [intOf]; omega
    · go_wp2
      go_ret
      exact ⟨ret_bool (all_end HT.out (by rw [Hl.out]; omega)).symm, rfl⟩
set_option maxHeartbeats 400000 in
theorem allWithin_any (w : World) (A : Option Addr) (n c : Nat) (l : List Int) (lo hi : Int) (ha : RdI w A n l) (hn : n ≤ 1099511627776) :
    Calls Try.prog 122 #[.slice A n c, .int .i64 lo, .int .i64 hi] w fun e w' => e = .returned (.bool (allB l lo hi)) ∧ w = w' := by
  have Hl := Lib.hid ha.len
  unfold allB
  go_enter Try.func122, Try.ntmps122
  go_wp2
  go_loop [8, 11] (fun _ i => ∃ k : Nat, k ≤ n ∧ i = .int .i64 k ∧ Hid ((l.take k).all (fun x => inB x lo hi) = true)) (fun _ i => n - (intOf i).toNat)
  case atStart => exact ⟨0, by omega, rfl, rfl⟩
  case round =>
    obtain ⟨k, hk, rfl, HT⟩ := hrel
    by_cases hlt : k < n
    · obtain ⟨b, off, rfl, hb, hc⟩ := ha.open_ (by omega)
      go_wp2_with (go_at_call 72; ((with_reducible refine (within_any _ _ _ _).mono ?_); rintro e w' ⟨rfl, rfl⟩))
      · have hh : (!inB (l[k]?.getD 0) lo hi) = true := by assumption
        go_ret
        exact ⟨ret_bool (all_miss 0 (by rw [Hl.out]; exact hlt) (by simpa using hh)).symm, rfl⟩
      · have hh : (!inB (l[k]?.getD 0) lo hi) = false := by assumption
        go_round
        case rel => exact ⟨k + 1, by omega, by go_num, all_step 0 (by rw [Hl.out]; exact hlt) HT.out (by simpa using hh)⟩
        case measure => simp [intOf]; omega
    · go_wp2
      go_ret
      exact ⟨ret_bool (all_end HT.out (by rw [Hl.out]; omega)).symm, rfl⟩
set_option maxHeartbeats 400000 in
theorem qInts_any (w : World) (A B : Option Addr) (n m c d : Nat) (l r : List Int) (ha : RdI w A n l) (hb : RdI w B m r) (hn : n ≤ 1099511627776) :
    Calls Try.prog 19 #[.slice A n c, .slice B m d] w fun e w' => e = .returned (.bool (sameB l r)) ∧ ∃ x, w' = ext w x := by
  have Hl := Lib.hid ha.len
  have Hr := Lib.hid hb.len
  unfold sameB
  by_cases hnm : n = m
  · subst hnm
    go_enter Try.func19, Try.ntmps19
    go_wp2
    go_loopw [5, 13] (fun _ i wr => ∃ k x, k ≤ n ∧ i = .int .i64 (k : Nat) ∧ wr = ext w x ∧ Hid (l.take k = r.take k)) (fun _ i _ => n - (intOf i).toNat)
    case atStart => exact ⟨0, _, Nat.zero_le _, rfl, (ext_self w), rfl⟩
    case round =>
      obtain ⟨k, x, hk, rfl, rfl, HT⟩ := hrel
      by_cases hlt : k < n
      · obtain ⟨b1, o1, rfl, hb1, hc1⟩ := ha.open_ (by omega)
        obtain ⟨b2, o2, rfl, hb2, hc2⟩ := hb.open_ (by omega)
        go_wp2
        go_quiet (fail)
        go_wp2
        · go_ret
          exact ⟨ret_bool (eq_take_ne Hl.out Hr.out hlt ‹_›).symm, ext_ex (by repeat (first | exact Below.refl _ _ | assumption | refine bExt ?_ _ | refine bAlloc ?_ _ | refine bDrewN ?_ _ | refine bDrew ?_ | refine bSet ?_ (by first | exact Nat.le_refl _ | omega | (simp; done) | (simp; omega)) _))⟩
        · go_roundw
          case rel => exact ⟨k + 1, _, by omega, by go_num, (ext_ex (by repeat (first | exact Below.refl _ _ | assumption | refine bExt ?_ _ | refine bAlloc ?_ _ | refine bDrewN ?_ _ | refine bDrew ?_ | refine bSet ?_ (by first | exact Nat.le_refl _ | omega | (simp; done) | (simp; omega)) _))).choose_spec, eq_take_step Hl.out Hr.out hlt HT.out ‹_›⟩
          case measure => simp [intOf]; omega
      · go_wp2
        go_ret
        exact ⟨ret_bool (eq_take_end Hl.out Hr.out (by omega) HT.out).symm, _, rfl⟩
  · go_enter Try.func19, Try.ntmps19
    go_wp2
    go_ret
    exact ⟨ret_bool (eq_len_ne (by rw [Hl.out, Hr.out]; exact hnm)).symm, ext_ex (by repeat (first | exact Below.refl _ _ | assumption | refine bExt ?_ _ | refine bAlloc ?_ _ | refine bDrewN ?_ _ | refine bDrew ?_ | refine bSet ?_ (by first | exact Nat.le_refl _ | omega | (simp; done) | (simp; omega)) _))⟩
set_option maxHeartbeats 400000 in
theorem sameInts_any (w : World) (A B : Option Addr) (n m c d : Nat) (l r : List Int) (ha : RdI w A n l) (hb : RdI w B m r) (hn : n ≤ 1099511627776) :
    Calls Try.prog 31 #[.slice A n c, .slice B m d] w fun e w' => e = .returned (.bool (sameB l r)) ∧ ∃ x, w' = ext w x := by
  have Hl := Lib.hid ha.len
  have Hr := Lib.hid hb.len
  unfold sameB
  by_cases hnm : n = m
  · subst hnm
    go_enter Try.func31, Try.ntmps31
    go_wp2
    go_loopw [5, 13] (fun _ i wr => ∃ k x, k ≤ n ∧ i = .int .i64 (k : Nat) ∧ wr = ext w x ∧ Hid (l.take k = r.take k)) (fun _ i _ => n - (intOf i).toNat)
    case atStart => exact ⟨0, _, Nat.zero_le _, rfl, (ext_self w), rfl⟩
    case round =>
      obtain ⟨k, x, hk, rfl, rfl, HT⟩ := hrel
      by_cases hlt : k < n
      · obtain ⟨b1, o1, rfl, hb1, hc1⟩ := ha.open_ (by omega)
        obtain ⟨b2, o2, rfl, hb2, hc2⟩ := hb.open_ (by omega)
        go_wp2
        go_quiet (fail)
        go_wp2
        · go_ret
          exact ⟨ret_bool (eq_take_ne Hl.out Hr.out hlt ‹_›).symm, ext_ex (by repeat (first | exact Below.refl _ _ | assumption | refine bExt ?_ _ | refine bAlloc ?_ _ | refine bDrewN ?_ _ | refine bDrew ?_ | refine bSet ?_ (by first | exact Nat.le_refl _ | omega | (simp; done) | (simp; omega)) _))⟩
        · go_roundw
          case rel => exact ⟨k + 1, _, by omega, by go_num, (ext_ex (by repeat (first | exact Below.refl _ _ | assumption | refine bExt ?_ _ | refine bAlloc ?_ _ | refine bDrewN ?_ _ | refine bDrew ?_ | refine bSet ?_ (by first | exact Nat.le_refl _ | omega | (simp; done) | (simp; omega)) _))).choose_spec, eq_take_step Hl.out Hr.out hlt HT.out ‹_›⟩
          case measure => simp [intOf]; omega
      · go_wp2
        go_ret
        exact ⟨ret_bool (eq_take_end Hl.out Hr.out (by omega) HT.out).symm, _, rfl⟩
  · go_enter Try.func31, Try.ntmps31
    go_wp2
    go_ret
    exact ⟨ret_bool (eq_len_ne (by rw [Hl.out, Hr.out]; exact hnm)).symm, ext_ex (by repeat (first | exact Below.refl _ _ | assumption | refine bExt ?_ _ | refine bAlloc ?_ _ | refine bDrewN ?_ _ | refine bDrew ?_ | refine bSet ?_ (by first | exact Nat.le_refl _ | omega | (simp; done) | (simp; omega)) _))⟩
theorem l1Own_any (w : World) (A : Option Addr) (n c : Nat) (l : List Int) (ha : RdI w A n l) (hn : n ≤ 1099511627776) :
    Calls Try.prog 139 #[.slice A n c] w (RetI w l) := by
  have o0 := OwI.lit_ (Below.refl w.heap.size w) [] (by simp [maxLen]) #[] rfl
  have hn0 : 0 + n ≤ 1099511627776 := by omega
  go_enter Try.func139, Try.ntmps139
  go_wp2_with (at_builtin; (refine wpl_app_int w rfl _ _ rfl (some ⟨w.heap.size, 0, none⟩) 0 0 [] rfl o0 ?_ ?_ A n c l rfl ha ?_ hn0 ?_); (focus (repeat (first | exact Below.refl _ _ | assumption | refine bExt ?_ _ | refine bAlloc ?_ _ | refine bDrewN ?_ _ | refine bDrew ?_ | refine bSet ?_ (by first | exact Nat.le_refl _ | omega | (simp; done) | (simp; omega)) _))); (focus (repeat (first | exact Below.refl _ _ | assumption | refine bExt ?_ _ | refine bAlloc ?_ _ | refine bDrewN ?_ _ | refine bDrew ?_ | refine bSet ?_ (by first | exact Nat.le_refl _ | omega | (simp; done) | (simp; omega)) _))); (focus (repeat (first | exact Below.refl _ _ | assumption | refine bExt ?_ _ | refine bAlloc ?_ _ | refine bDrewN ?_ _ | refine bDrew ?_ | refine bSet ?_ (by first | exact Nat.le_refl _ | omega | (simp; done) | (simp; omega)) _))); intro A' c' y ho hg hd)
  go_ret
  exact RetI.mk_ (by simpa using ho) (Nat.le_refl _) (ext_below _ _)
theorem copyInts_any (w : World) (A : Option Addr) (n c : Nat) (l : List Int) (ha : RdI w A n l) (hn : n ≤ 1099511627776) :
    Calls Try.prog 140 #[.slice A n c] w (RetI w l) := by
  have o0 := OwI.lit_ (Below.refl w.heap.size w) [] (by simp [maxLen]) #[] rfl
  have hn0 : 0 + n ≤ 1099511627776 := by omega
  go_enter Try.func140, Try.ntmps140
  go_wp2_with (at_builtin; (refine wpl_app_int w rfl _ _ rfl (some ⟨w.heap.size, 0, none⟩) 0 0 [] rfl o0 ?_ ?_ A n c l rfl ha ?_ hn0 ?_); (focus (repeat (first | exact Below.refl _ _ | assumption | refine bExt ?_ _ | refine bAlloc ?_ _ | refine bDrewN ?_ _ | refine bDrew ?_ | refine bSet ?_ (by first | exact Nat.le_refl _ | omega | (simp; done) | (simp; omega)) _))); (focus (repeat (first | exact Below.refl _ _ | assumption | refine bExt ?_ _ | refine bAlloc ?_ _ | refine bDrewN ?_ _ | refine bDrew ?_ | refine bSet ?_ (by first | exact Nat.le_refl _ | omega | (simp; done) | (simp; omega)) _))); (focus (repeat (first | exact Below.refl _ _ | assumption | refine bExt ?_ _ | refine bAlloc ?_ _ | refine bDrewN ?_ _ | refine bDrew ?_ | refine bSet ?_ (by first | exact Nat.le_refl _ | omega | (simp; done) | (simp; omega)) _))); intro A' c' y ho hg hd)
  go_ret
  exact RetI.mk_ (by simpa using ho) (Nat.le_refl _) (ext_below _ _)
end Go.Proofs.Ytogglhgagblihaa
namespace Go.Proofs.Ytogglhgagblihaa
open Go.RowKit
/-- Block g is a cursor over (A, n, c) that has made at most k choices. -/
def CurW (w : World) (g : Nat) (A : Option Addr) (n c k : Nat) : Prop := ∃ (a : Nat) (s : Int), (a ≤ k ∧ 0 ≤ s ∧ s ≤ 18446744073709551615) ∧ w.heap[g]? = some (.cells #[.slice A n c, .int .i64 a, .int .u64 s] 74 (0, 0))
/-- A slice of bytes reads as the list. -/
def RdY (w : World) (A : Option Addr) (n : Nat) (l : List Int) : Prop := Rd 1 w A n (l.map (Value.int .u8)) ∧ ∀ x ∈ l, 0 ≤ x ∧ x ≤ 255
theorem RdY.below {w w' : World} {A : Option Addr} {n : Nat} {l : List Int} (h : RdY w A n l) (hb : Below w.heap.size w w') : RdY w' A n l := ⟨Rd.below h.1 hb, h.2⟩
theorem RdY.open_ {w : World} {A : Option Addr} {n : Nat} {l : List Int} (h : RdY w A n l) {k : Nat} (hk : k < n) : ∃ b off v, A = some ⟨b, off, none⟩ ∧ b < w.heap.size ∧ w.cell? ⟨b, off + k, none⟩ = some (.int .u8 v) ∧ 0 ≤ v ∧ v ≤ 255 := by
  have hl : l.length = n := by have := h.1.1; simpa using this
  obtain ⟨b, off, e, hlt, hc⟩ := h.1.2 (by omega)
  refine ⟨b, off, l[k]?.getD 0, e, hlt, hc k _ ?_, h.2 _ (getD_mem 0 l k (by omega))⟩
  simp [show k < l.length by omega]
theorem CurW.lt {w : World} {g : Nat} {A : Option Addr} {n c k : Nat} (h : CurW w g A n c k) : g < w.heap.size := by
  obtain ⟨a, s, _, h⟩ := h
  rcases Nat.lt_or_ge g w.heap.size with h' | h'
  · exact h'
  · simp [Array.getElem?_eq_none h'] at h
theorem CurW.mono {w : World} {g : Nat} {A : Option Addr} {n c k k' : Nat} (h : CurW w g A n c k) (hk : k ≤ k') : CurW w g A n c k' := by
  obtain ⟨a, s, ⟨h1, h2⟩, h3⟩ := h; exact ⟨a, s, ⟨by omega, h2⟩, h3⟩
theorem CurW.kept {w w' : World} {g : Nat} {A : Option Addr} {n c k : Nat} {row : Option Nat} (h : CurW w g A n c k) (hg : w.grownBy w' row) (hne : some g ≠ row) : CurW w' g A n c k := by
  have hlt := h.lt
  obtain ⟨a, s, h1, h3⟩ := h
  exact ⟨a, s, h1, (hg.block g hlt hne).trans h3⟩
theorem CurW.below {w w' : World} {g : Nat} {A : Option Addr} {n c k : Nat} (h : CurW w g A n c k) (hb : Below w.heap.size w w') : CurW w' g A n c k := h.kept (grownBy_of_below (row := none) hb) (by simp)
theorem cur_cells {w : World} {g : Nat} {x y z : Value} (h : w.heap[g]? = some (.cells #[x, y, z] 74 (0, 0))) : w.cell? ⟨g, 0, none⟩ = some x ∧ w.cell? ⟨g, 1, none⟩ = some y ∧ w.cell? ⟨g, 2, none⟩ = some z ∧ w.frozen? ⟨g, 1, none⟩ = false ∧ w.frozen? ⟨g, 2, none⟩ = false := by
  refine ⟨?_, ?_, ?_, ?_, ?_⟩ <;> simp [World.cell?, World.frozen?, h]
theorem cur_set {w : World} {g : Nat} {x y z y' z' : Value} (h : w.heap[g]? = some (.cells #[x, y, z] 74 (0, 0))) : ((w.setCell ⟨g, 1, none⟩ y').setCell ⟨g, 2, none⟩ z').heap[g]? = some (.cells #[x, y', z'] 74 (0, 0)) := by
  have h1 := heap_setCell_same w g 1 _ _ y' h
  exact heap_setCell_same _ g 2 _ _ z' h1
theorem cur_grown (w : World) (g i : Nat) (v : Value) : w.grownBy (w.setCell ⟨g, i, none⟩ v) (some g) :=
  ⟨rfl, rfl, rfl, by simp, fun k _ hk => Below.heap_setCell w _ v k (fun e => hk (by rw [e]))⟩
theorem u64_bd (x : Int) : 0 ≤ IntKind.u64.wrap x ∧ IntKind.u64.wrap x ≤ 18446744073709551615 := by rw [IntKind.wrap_u64]; omega
theorem cur_made {w : World} {g m q a k n c : Nat} {A : Option Addr} {s z : Int} (h : w.heap[g]? = some (.cells #[.slice A n c, .int .i64 a, .int .u64 s] 74 (0, 0))) (ha : a ≤ k) :
    CurW ((((w.drewN m).setCell ⟨g, 1, none⟩ (.int .i64 ((a : Int) + 1))).setCell ⟨g, 2, none⟩ (.int .u64 (IntKind.u64.wrap z))).drewN q) g A n c (k + 1) :=
  ⟨a + 1, IntKind.u64.wrap z, ⟨by omega, u64_bd z⟩, cur_set (y' := .int .i64 ((a : Int) + 1)) (z' := .int .u64 (IntKind.u64.wrap z)) h⟩
theorem low8 (X : Int) (h0 : 0 ≤ X) (h1 : X ≤ 18446744073709551615) : 0 ≤ wrap64 (bits BinOp.and IntKind.u64 (X / 1099511627776) 255) ∧ wrap64 (bits BinOp.and IntKind.u64 (X / 1099511627776) 255) ≤ 255 := by
  have e : X / 1099511627776 = ((X.toNat / 1099511627776 : Nat) : Int) := by omega
  have h := bits_and_u64_nat (X.toNat / 1099511627776) 255 (by omega) (by omega)
  rw [e]
  have h' : bits BinOp.and IntKind.u64 ((X.toNat / 1099511627776 : Nat) : Int) 255 = ((X.toNat / 1099511627776 &&& 255 : Nat) : Int) := h
  rw [h']
  have h2 : X.toNat / 1099511627776 &&& 255 ≤ 255 := Nat.and_le_right
  rw [IntWalk.wrap64_in _ (by omega)]
  omega
def RetNx (w : World) (g : Nat) (A : Option Addr) (n c k : Nat) (lo hi : Int) (e : Ending) (w' : World) : Prop := ∃ r : Int, (lo ≤ r ∧ r ≤ hi) ∧ e = .returned (.int .i64 r) ∧ CurW w' g A n c k ∧ w.grownBy w' (some g)
set_option maxHeartbeats 1000000 in
theorem next_any (w : World) (g : Nat) (A : Option Addr) (n c k : Nat) (l : List Int) (hC : CurW w g A n c k) (hr : RdY w A n l) (hne : 0 < n → blkOf A ≠ some g) (hn : n ≤ 9223372036854775807) (hk : k ≤ 1099511627776) :
    Calls Try.prog 115 #[.pointer (some ⟨g, 0, none⟩)] w (RetNx w g A n c (k + 1) 0 255) := by
  have hgl := hC.lt
  obtain ⟨a, s, ⟨ha, hs0, hs1⟩, hh⟩ := hC
  obtain ⟨hc0, hc1, hc2, hf1, hf2⟩ := cur_cells hh
  have HH := Lib.hid hh
  clear hh
  by_cases hlt : a < n
  · obtain ⟨b, off, v, rfl, hb, hcv, hv0, hv1⟩ := hr.open_ hlt
    have hltI : (a : Int) < n := by omega
    have hneb : ¬ b = g := fun e => hne (by omega) (by rw [e]; rfl)
    go_enter Try.func115, Try.ntmps115
    go_wp2
    go_quiet (fail)
    go_wp2
    go_quiet (fail)
    go_wp2
    go_quiet (fail)
    go_wp2
    go_ret
    exact ⟨v, ⟨hv0, hv1⟩, rfl, cur_made HH.out ha, gDrewN ((gDrewN (World.grownBy.refl w (some g)) _).trans ((cur_grown _ g 1 _).trans (cur_grown _ g 2 _))) _⟩
  · have hltI : ¬ (a : Int) < n := by omega
    have hltJ : ¬ (a : Int) + 1 ≤ n := by omega
    go_enter Try.func115, Try.ntmps115
    go_wp2
    go_quiet (fail)
    go_wp2
    go_quiet (fail)
    go_wp2
    go_ret
    exact ⟨_, low8 _ (u64_bd _).1 (u64_bd _).2, rfl, cur_made HH.out ha, gDrewN ((gDrewN (World.grownBy.refl w (some g)) _).trans ((cur_grown _ g 1 _).trans (cur_grown _ g 2 _))) _⟩
end Go.Proofs.Ytogglhgagblihaa
namespace Go.Proofs.Ytogglhgagblihaa
open Go.RowKit
theorem RetNx.weak {w : World} {g : Nat} {A : Option Addr} {n c k k' : Nat} {lo hi : Int} {e : Ending} {w' : World} (h : RetNx w g A n c k lo hi e w') (hk : k ≤ k') : RetNx w g A n c k' lo hi e w' := by
  obtain ⟨r, h1, h2, h3, h4⟩ := h; exact ⟨r, h1, h2, h3.mono hk, h4⟩
theorem RdY.kept {w w' : World} {A : Option Addr} {n g : Nat} {l : List Int} (h : RdY w A n l) (hg : w.grownBy w' (some g)) (hne : 0 < n → blkOf A ≠ some g) : RdY w' A n l := by
  refine ⟨⟨h.1.1, fun hn => ?_⟩, h.2⟩
  obtain ⟨b, off, rfl, hlt, hc⟩ := h.1.2 hn
  refine ⟨b, off, rfl, Nat.lt_of_lt_of_le hlt hg.size, fun j u hu => ?_⟩
  exact hg.cell (a := ⟨b, off + j, none⟩) (hc j u hu) (fun e => hne (by omega) e)
theorem RdI.kept {w w' : World} {A : Option Addr} {n g : Nat} {l : List Int} (h : RdI w A n l) (hg : w.grownBy w' (some g)) (hne : blkOf A ≠ some g) : RdI w' A n l := by
  refine ⟨h.1, fun hn => ?_⟩
  obtain ⟨b, off, rfl, hlt, hc⟩ := h.2 hn
  refine ⟨b, off, rfl, Nat.lt_of_lt_of_le hlt hg.size, fun j u hu => ?_⟩
  exact hg.cell (a := ⟨b, off + j, none⟩) (hc j u hu) (fun e => hne e)
set_option maxHeartbeats 1000000 in
theorem pick_any (w : World) (g : Nat) (A : Option Addr) (n c k : Nat) (l : List Int) (q : Int) (hC : CurW w g A n c k) (hr : RdY w A n l) (hne : 0 < n → blkOf A ≠ some g) (hn : n ≤ 9223372036854775807) (hk : k ≤ 1099511627000) (hq1 : 1 ≤ q) (hq2 : q ≤ 1099511627776) :
    Calls Try.prog 67 #[.pointer (some ⟨g, 0, none⟩), .int .i64 q] w (RetNx w g A n c (k + 2) 0 (q - 1)) := by
  by_cases h1 : q ≤ 1
  · obtain rfl : q = 1 := by omega
    go_enter Try.func67, Try.ntmps67
    go_wp2
    go_ret
    exact ⟨0, by omega, rfl, hC.mono (by omega), World.grownBy.refl _ _⟩
  · by_cases h2 : 200 < q
    · go_enter Try.func67, Try.ntmps67
      go_wp2_with fail
      refine (next_any _ g A n c k l hC hr hne hn (by omega)).mono ?_
      rintro e w1 ⟨r1, ⟨ha0, ha1⟩, rfl, hC1, hg1⟩
      go_wp2_with fail
      refine (next_any _ g A n c (k + 1) l hC1 (hr.kept hg1 hne) hne hn (by omega)).mono ?_
      rintro e w2 ⟨r2, ⟨hb0, hb1⟩, rfl, hC2, hg2⟩
      go_wp2
      go_ret
      have h3 := Int.emod_nonneg (r1 * 256 + r2) (show q ≠ 0 by omega)
      have h4 := Int.emod_lt_of_pos (r1 * 256 + r2) (show 0 < q by omega)
      exact ⟨_, ⟨h3, by omega⟩, rfl, hC2, hg1.trans hg2⟩
    · go_enter Try.func67, Try.ntmps67
      go_wp2_with fail
      refine (next_any _ g A n c k l hC hr hne hn (by omega)).mono ?_
      rintro e w1 ⟨r1, ⟨ha0, ha1⟩, rfl, hC1, hg1⟩
      go_wp2
      go_ret
      have h3 := Int.emod_nonneg r1 (show q ≠ 0 by omega)
      have h4 := Int.emod_lt_of_pos r1 (show 0 < q by omega)
      exact ⟨_, ⟨h3, by omega⟩, rfl, hC1.mono (by omega), hg1⟩
def RetOn (w : World) (g : Nat) (A : Option Addr) (n c k : Nat) (e : Ending) (w' : World) : Prop := ∃ b : Bool, e = .returned (.bool b) ∧ CurW w' g A n c k ∧ w.grownBy w' (some g)
theorem one_any (w : World) (g : Nat) (A : Option Addr) (n c k : Nat) (l : List Int) (q : Int) (hC : CurW w g A n c k) (hr : RdY w A n l) (hne : 0 < n → blkOf A ≠ some g) (hn : n ≤ 9223372036854775807) (hk : k ≤ 1099511627000) (hq1 : 1 ≤ q) (hq2 : q ≤ 1099511627776) :
    Calls Try.prog 68 #[.pointer (some ⟨g, 0, none⟩), .int .i64 q] w (RetOn w g A n c (k + 2)) := by
  go_enter Try.func68, Try.ntmps68
  go_wp2_with fail
  refine (pick_any _ g A n c k l q hC hr hne hn hk hq1 hq2).mono ?_
  rintro e w1 ⟨r1, ⟨ha0, ha1⟩, rfl, hC1, hg1⟩
  go_wp2
  go_ret
  exact ⟨_, rfl, hC1, hg1⟩
def RetAm (w : World) (g : Nat) (A : Option Addr) (n c k : Nat) (L : List Int) (e : Ending) (w' : World) : Prop := ∃ r : Int, r ∈ L ∧ e = .returned (.int .i64 r) ∧ CurW w' g A n c k ∧ w.grownBy w' (some g)
theorem among_any (w : World) (g : Nat) (A : Option Addr) (n c k : Nat) (l : List Int) (B : Option Addr) (m d : Nat) (L : List Int) (hC : CurW w g A n c k) (hr : RdY w A n l) (hne : 0 < n → blkOf A ≠ some g) (hn : n ≤ 9223372036854775807) (hk : k ≤ 1099511627000) (hb : RdI w B m L) (hneb : blkOf B ≠ some g) (hm1 : 1 ≤ m) (hm2 : m ≤ 1099511627776) :
    Calls Try.prog 66 #[.pointer (some ⟨g, 0, none⟩), .slice B m d] w (RetAm w g A n c (k + 2) L) := by
  have hl := hb.len
  go_enter Try.func66, Try.ntmps66
  go_wp2_with fail
  refine (pick_any _ g A n c k l m hC hr hne hn hk (by omega) (by omega)).mono ?_
  rintro e w1 ⟨r1, ⟨ha0, ha1⟩, rfl, hC1, hg1⟩
  obtain ⟨b, off, rfl, hlt, hc⟩ := (hb.kept hg1 hneb).open_ (by omega)
  obtain ⟨i, rfl⟩ : ∃ i : Nat, r1 = i := ⟨r1.toNat, by omega⟩
  have hi := hc i (by omega)
  rw [List.getD_eq_getElem?_getD] at hi
  have hm := getD_mem 0 L i (by omega)
  clear hc
  have hiI : (i : Int) < m := by omega
  go_wp2
  go_ret
  exact ⟨_, hm, rfl, hC1, hg1⟩
end Go.Proofs.Ytogglhgagblihaa
namespace Go.Proofs.Ytogglhgagblihaa
open Go.RowKit
structure Cx (R w : World) (g : Nat) (A : Option Addr) (n c k : Nat) (l : List Int) : Prop where
  cur : CurW w g A n c k
  rd : RdY R A n l
  bel : Below R.heap.size R w
  le : R.heap.size ≤ g
  nb : n ≤ 9223372036854775807
theorem Cx.ne {R w : World} {g n c k : Nat} {A : Option Addr} {l : List Int} (h : Cx R w g A n c k l) (hn : 0 < n) : blkOf A ≠ some g := by
  obtain ⟨b, off, rfl, hlt, _⟩ := h.rd.1.2 hn
  intro e
  have e : b = g := by simpa [blkOf] using e
  have := h.le
  omega
theorem Cx.grow {R w w' : World} {g n c k k' : Nat} {A : Option Addr} {l : List Int} (h : Cx R w g A n c k l) (hC : CurW w' g A n c k') (hg : w.grownBy w' (some g)) : Cx R w' g A n c k' l :=
  ⟨hC, h.rd, below_grown h.bel hg (fun k hk => by injection hk with hk; have := h.le; omega), h.le, h.nb⟩
theorem Cx.below {R w w' : World} {g n c k : Nat} {A : Option Addr} {l : List Int} (h : Cx R w g A n c k l) (hb : Below w.heap.size w w') : Cx R w' g A n c k l :=
  ⟨h.cur.below hb, h.rd, h.bel.trans (hb.mono h.bel.size), h.le, h.nb⟩
theorem Cx.row {R w w' : World} {g n c k : Nat} {A : Option Addr} {l : List Int} {row : Option Nat} (h : Cx R w g A n c k l) (hg : w.grownBy w' row) (hne : row ≠ some g) (hr : ∀ b, row = some b → R.heap.size ≤ b) : Cx R w' g A n c k l :=
  ⟨h.cur.kept hg (fun e => hne e.symm), h.rd, below_grown h.bel hg hr, h.le, h.nb⟩
theorem Cx.mono {R w : World} {g n c k k' : Nat} {A : Option Addr} {l : List Int} (h : Cx R w g A n c k l) (hk : k ≤ k') : Cx R w g A n c k' l := ⟨h.cur.mono hk, h.rd, h.bel, h.le, h.nb⟩
theorem pick_cx {R w : World} {g n c k : Nat} {A : Option Addr} {l : List Int} (h : Cx R w g A n c k l) (q : Int) (hk : k ≤ 1099511627000) (hq1 : 1 ≤ q) (hq2 : q ≤ 1099511627776) :
    Calls Try.prog 67 #[.pointer (some ⟨g, 0, none⟩), .int .i64 q] w (RetNx w g A n c (k + 2) 0 (q - 1)) := pick_any w g A n c k l q h.cur (h.rd.below h.bel) h.ne h.nb hk hq1 hq2
theorem one_cx {R w : World} {g n c k : Nat} {A : Option Addr} {l : List Int} (h : Cx R w g A n c k l) (q : Int) (hk : k ≤ 1099511627000) (hq1 : 1 ≤ q) (hq2 : q ≤ 1099511627776) :
    Calls Try.prog 68 #[.pointer (some ⟨g, 0, none⟩), .int .i64 q] w (RetOn w g A n c (k + 2)) := one_any w g A n c k l q h.cur (h.rd.below h.bel) h.ne h.nb hk hq1 hq2
theorem among_cx {R w : World} {g n c k : Nat} {A : Option Addr} {l : List Int} (h : Cx R w g A n c k l) {b : Nat} (m d : Nat) (L : List Int) (hk : k ≤ 1099511627000) (hb : RdI w (some ⟨b, 0, none⟩) m L) (hneb : g < b) (hm1 : 1 ≤ m) (hm2 : m ≤ 1099511627776) :
    Calls Try.prog 66 #[.pointer (some ⟨g, 0, none⟩), .slice (some ⟨b, 0, none⟩) m d] w (RetAm w g A n c (k + 2) L) := among_any w g A n c k l _ m d L h.cur (h.rd.below h.bel) h.ne h.nb hk hb (by simp [blkOf]; omega) hm1 hm2
end Go.Proofs.Ytogglhgagblihaa
namespace Go.Proofs.Ytogglhgagblihaa
open Go.RowKit
/-- The row is nil, or its block is not below w. -/
def Nw (w : World) (D : Option Addr) : Prop := ∀ b, blkOf D = some b → w.heap.size ≤ b
theorem Nw.nil_ {w : World} : Nw w none := fun b h => by cases h
theorem Nw.push {w W : World} {D D' : Option Addr} (h : Nw w D) (hW : w.heap.size ≤ W.heap.size) (hd : blkOf D' = blkOf D ∨ ∃ g, blkOf D' = some g ∧ W.heap.size < g) : Nw w D' := fun b hb => by
  rcases hd with hd | ⟨g, hd, hlt⟩
  · exact h b (by rw [← hd]; exact hb)
  · rw [hd] at hb; injection hb with hb; omega
theorem Nw.ne {w : World} {D : Option Addr} {g : Nat} (h : Nw w D) (hg : g < w.heap.size) : blkOf D = none ∨ blkOf D ≠ some g := by
  cases hD : blkOf D with
  | none => exact .inl rfl
  | some b => exact .inr (fun e => by injection e with e; have := h b hD; omega)
theorem Nw.ne' {w : World} {D : Option Addr} {g : Nat} (h : Nw w D) (hg : g < w.heap.size) : blkOf D ≠ some g := fun e => by have := h g e; omega
/-- Writes to a row that is new since w are no writes to w. -/
theorem grown_new {w W W' : World} {row : Option Nat} {D : Option Addr} (h : w.grownBy W row) (hg : W.grownBy W' (blkOf D)) (hD : Nw w D) : w.grownBy W' row := by
  refine ⟨hg.os.trans h.os, hg.tape.trans h.tape, hg.output.trans h.output, Nat.le_trans h.size hg.size, fun k hk hne => ?_⟩
  rw [hg.block k (Nat.lt_of_lt_of_le hk h.size) (fun e => by have := hD k e.symm; omega)]
  exact h.block k hk hne
theorem int_lit {w : World} (l : List Int) (hl : l.length ≤ maxLen) (cs : Array Value) (hcs : cs.toList = l.map (Value.int .i64)) : RdI (w.alloc (.cells cs 3)) (some ⟨w.heap.size, 0, none⟩) l.length l := (OwI.lit_ (Below.refl _ w) l hl cs hcs).rd
end Go.Proofs.Ytogglhgagblihaa
namespace Go.Proofs.Ytogglhgagblihaa
open Go.RowKit
theorem cx_new {w : World} {A : Option Addr} {n c : Nat} {l : List Int} (hr : RdY w A n l) (hn : n ≤ 9223372036854775807) : Cx w (w.alloc (.cells #[.slice A n c, .int .i64 0, .int .u64 0] 74)) w.heap.size A n c 0 l := by
  refine ⟨⟨0, 0, by omega, ?_⟩, hr, bAlloc (Below.refl _ _) _, Nat.le_refl _, hn⟩
  exact heap_alloc_new w _
def RetD1 (w : World) (e : Ending) (w' : World) : Prop := ∃ (A : Option Addr) (n c : Nat) (L : List Int) (x : World), e = .returned (.slice A n c) ∧ n ≤ 1000 ∧ w' = ext w x ∧ OwI w.heap.size (ext w x) A n c L
def RetD2 (w : World) (e : Ending) (w' : World) : Prop := ∃ (A : Option Addr) (n c : Nat) (L : List Int) (B : Option Addr) (m d : Nat) (M : List Int) (x : World), e = .returned (.tuple #[.slice A n c, .slice B m d]) ∧ (n ≤ 1000 ∧ m ≤ 1000) ∧ w' = ext w x ∧ OwI w.heap.size (ext w x) A n c L ∧ OwI w.heap.size (ext w x) B m d M
def RetD1I (w : World) (e : Ending) (w' : World) : Prop := ∃ (A : Option Addr) (n c : Nat) (L : List Int) (i : Int) (x : World), e = .returned (.tuple #[.slice A n c, .int .i64 i]) ∧ n ≤ 1000 ∧ w' = ext w x ∧ OwI w.heap.size (ext w x) A n c L
end Go.Proofs.Ytogglhgagblihaa
namespace Go.Proofs.Ytogglhgagblihaa
open Go.RowKit
def RetII (w : World) (e : Ending) (w' : World) : Prop := ∃ (i j : Int) (x : World), e = .returned (.tuple #[.int .i64 i, .int .i64 j]) ∧ w' = ext w x
set_option maxHeartbeats 400000 in
theorem drawWarmUpGroups_any (w : World) (A : Option Addr) (n c : Nat) (l : List Int) (hr : RdY w A n l) (hn : n ≤ 9223372036854775807) :
    Calls Try.prog 16 #[.slice A n c] w (RetII w) := by
  have h := cx_new (c := c) hr hn
  have hg : w.heap.size < (w.alloc (.cells #[.slice A n c, .int .i64 0, .int .u64 0] 74)).heap.size := by simp
  go_enter Try.func16, Try.ntmps16
  go_wp2_with fail
  have hs : (w.alloc (.cells #[.slice A n c, .int .i64 0, .int .u64 0] 74)).heap.size = w.heap.size + 1 := by simp
  generalize w.alloc (.cells #[.slice A n c, .int .i64 0, .int .u64 0] 74) = W0 at *
  have rl := int_lit (w := W0) [1, 2, 5, 7, 9, 13, 24, 40, 41, 0] (by simp [maxLen]) #[.int .i64 1, .int .i64 2, .int .i64 5, .int .i64 7, .int .i64 9, .int .i64 13, .int .i64 24, .int .i64 40, .int .i64 41, .int .i64 0] rfl
  rw [hs] at rl
  have hb0 := h.below (bAlloc (Below.refl W0.heap.size W0) (.cells #[.int .i64 1, .int .i64 2, .int .i64 5, .int .i64 7, .int .i64 9, .int .i64 13, .int .i64 24, .int .i64 40, .int .i64 41, .int .i64 0] 3))
  refine (among_cx hb0 10 10 [1, 2, 5, 7, 9, 13, 24, 40, 41, 0] (by omega) rl (by omega) (by omega) (by omega)).mono ?_
  rintro e w3 ⟨v3, hv3, rfl, hC3, hg3⟩
  have h3 := hb0.grow hC3 hg3
  clear hv3 rl hs
  go_wp2_with fail
  refine (pick_cx h3 10 (by omega) (by omega) (by omega)).mono ?_
  rintro e w4 ⟨r4, ⟨ha0, ha1⟩, rfl, hC4, hg4⟩
  have h4 := h3.grow hC4 hg4
  go_wp2
  go_ret2
  obtain ⟨x, rfl⟩ := ext_ex h4.bel
  exact ⟨v3, r4, x, rfl, rfl⟩
end Go.Proofs.Ytogglhgagblihaa
namespace Go.Proofs.Ytogglhgagblihaa
open Go.ChangeShapes Go.WideShapes Go.ChangeAt Go.RowKit Go.Deep
theorem wfY {x : Int} (h : (Lit.int .u8 x).wf = true) : 0 ≤ x ∧ x ≤ 255 := by
  have e1 : IntKind.u8.min = 0 := by decide
  have e2 : IntKind.u8.max = 255 := by decide
  unfold Lit.wf at h
  simp [e1, e2] at h
  omega
theorem open_RdY {H : Type} {enc : TypeId × Value → H} {W : World} {r : Reach} {base : Nat} {v : Value} {d : DataW H} {p : List MemPlace}
    (hv : Value.okWide Try.prog W r base 22 v) (h : DataW.Trod enc Try.prog W 0 (fun _ => true) true 22 v d p) :
    ∃ A n c l, v = .slice A n c ∧ RdY W A n l ∧ n ≤ c ∧ c ≤ maxLen := by
  obtain ⟨a0, len, cap, rfl⟩ := okWide_slice Try.underlying22 hv
  obtain ⟨fuel, hf⟩ := h
  rcases open_ints Try.underlying22 Try.underlying5 (by kernel_rfl) hf with ⟨hcs, _⟩ | ⟨x, l, c, zs, hcs, _, hl, hm, hz, _, hcell, hwz⟩
  · simp [Value.cells] at hcs
    obtain ⟨rfl, rfl, rfl⟩ := hcs
    exact ⟨none, 0, 0, [], rfl, ⟨⟨by simp, by omega⟩, by simp⟩, Nat.le_refl _, by simp [maxLen]⟩
  · simp [Value.cells] at hcs
    obtain ⟨rfl, rfl, rfl⟩ := hcs
    refine ⟨some x, len, cap, zs.take len, rfl, ⟨⟨?_, fun hn => ?_⟩, fun y hy => wfY (hwz y (List.mem_of_mem_take hy))⟩, hl, hm⟩
    · simp; simp at hz; omega
    · obtain ⟨b, off, spot⟩ := x
      have hzl : zs.length = cap := by simpa using hz
      have hc := hcell 0 (by omega)
      have hspot : spot = none := by simpa [Addr.add] using World.cell?_spot hc
      subst hspot
      have hb : b < W.heap.size := World.block_lt_of_cell? W _ (by simpa [Addr.add] using hc)
      refine ⟨b, off, rfl, hb, fun j u hu => ?_⟩
      simp only [List.getElem?_map, Option.map_eq_some_iff] at hu
      obtain ⟨y, hy, rfl⟩ := hu
      have hj : j < zs.length := by
        have := (List.getElem?_eq_some_iff.1 hy).1
        simp at this; omega
      have h2 := hcell j hj
      have hadd : (⟨b, off, none⟩ : Addr).add j = ⟨b, off + j, none⟩ := by unfold Addr.add; split <;> simp_all
      rw [hadd] at h2
      rw [h2]
      have : zs.getD j 0 = y := by
        rw [List.getElem?_take] at hy
        split at hy
        · simp [List.getD, hy]
        · cases hy
      rw [this]
end Go.Proofs.Ytogglhgagblihaa
