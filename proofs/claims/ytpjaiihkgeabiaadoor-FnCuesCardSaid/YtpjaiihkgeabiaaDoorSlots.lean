/- Slices of slots (two ints each): how they read, and the contracts of the functions that copy and compare them. Conditions: lengths below 2^40. -/
import Derived.Test.YtpjaiihkgeabiaaDoorL1
import Derived.StillTailTactics
set_option linter.unusedVariables false
set_option linter.unusedSimpArgs false
set_option maxRecDepth 100000
namespace Go.Proofs.YtpjaiihkgeabiaaDoor
open Go.RowKit
def slotCells (l : List (Int × Int)) : List Value := l.flatMap fun p => [.int .i64 p.1, .int .i64 p.2]
theorem slotCells_len (l : List (Int × Int)) : (slotCells l).length = l.length * 2 := by
  unfold slotCells
  induction l with
  | nil => rfl
  | cons a r ih => simp only [List.flatMap_cons, List.length_append, ih]; simp; omega
theorem slotCells_get0 (l : List (Int × Int)) (k : Nat) (h : k < l.length) : (slotCells l)[k * 2]? = some (.int .i64 (l[k]?.getD (0, 0)).1) := by
  induction l generalizing k with
  | nil => simp at h
  | cons a r ih =>
    cases k with
    | zero => simp [slotCells]
    | succ k =>
      have : (slotCells (a :: r))[(k + 1) * 2]? = (slotCells r)[k * 2]? := by
        rw [show (k + 1) * 2 = k * 2 + 1 + 1 by omega]
        simp [slotCells]
      rw [this, ih k (by simpa using h)]
      simp
theorem slotCells_get1 (l : List (Int × Int)) (k : Nat) (h : k < l.length) : (slotCells l)[k * 2 + 1]? = some (.int .i64 (l[k]?.getD (0, 0)).2) := by
  induction l generalizing k with
  | nil => simp at h
  | cons a r ih =>
    cases k with
    | zero => simp [slotCells]
    | succ k =>
      have : (slotCells (a :: r))[(k + 1) * 2 + 1]? = (slotCells r)[k * 2 + 1]? := by
        rw [show (k + 1) * 2 + 1 = k * 2 + 1 + 1 + 1 by omega]
        simp [slotCells]
      rw [this, ih k (by simpa using h)]
      simp
/-- A slice of slots reads as the list l. -/
def RdS (w : World) (A : Option Addr) (n : Nat) (l : List (Int × Int)) : Prop := Rd 2 w A n (slotCells l)
section
variable {n : Nat} {w w' : World} {A : Option Addr} {l : List (Int × Int)}
theorem RdS.below (h : RdS w A n l) (hb : Below w.heap.size w w') : RdS w' A n l := Rd.below h hb
theorem RdS.len (h : RdS w A n l) : l.length = n := by have := h.1; rw [slotCells_len] at this; omega
theorem RdS.at_ (h : RdS w A n l) (k : Nat) (hk : k < n) : ∃ b off, A = some ⟨b, off, none⟩ ∧ b < w.heap.size ∧ w.cell? ⟨b, off + k * 2, none⟩ = some (.int .i64 (l[k]?.getD (0, 0)).1) ∧ w.cell? ⟨b, off + k * 2 + 1, none⟩ = some (.int .i64 (l[k]?.getD (0, 0)).2) := by
  have hl := h.len
  obtain ⟨b, off, e, hlt, hc⟩ := h.2 (by omega)
  exact ⟨b, off, e, hlt, hc _ _ (slotCells_get0 l k (by omega)), hc (k * 2 + 1) _ (slotCells_get1 l k (by omega))⟩
theorem slotCells_take (l : List (Int × Int)) (k : Nat) : slotCells (l.take k) = (slotCells l).take (k * 2) := by
  induction l generalizing k with
  | nil => simp [slotCells]
  | cons a r ih =>
    cases k with
    | zero => simp [slotCells]
    | succ k =>
      have e : slotCells (a :: r) = .int .i64 a.1 :: .int .i64 a.2 :: slotCells r := by simp [slotCells]
      rw [e, show (k + 1) * 2 = k * 2 + 1 + 1 by omega]
      simp only [List.take_succ_cons, ← ih]
      simp [slotCells]
theorem RdS.take_ (h : RdS w A n l) (k : Nat) (hk : k ≤ n) : RdS w A k (l.take k) := by
  unfold RdS
  rw [slotCells_take]
  exact Rd.take_ h k hk
theorem RdS.nil_ : RdS w A 0 [] := ⟨by simp [slotCells], fun h => absurd h (by omega)⟩
end
theorem slot_info : (Tryd.prog.info? 110).map (fun i => (i.zero, i.size, i.bytes)) = some (some (.agg #[.int .i64 0, .int .i64 0]), 2, 16) := by kernel_rfl
/-- A row of slots of the call's own. -/
def OwS (base : Nat) (w : World) (A : Option Addr) (n c : Nat) (l : List (Int × Int)) : Prop := Ow 110 2 base w A n c (slotCells l)
theorem slotCells_set (m : List (Int × Int)) (k : Nat) (a b : Int) (h : k < m.length) : ((slotCells m).set (k * 2) (.int .i64 a)).set (k * 2 + 1) (.int .i64 b) = slotCells (m.set k (a, b)) := by
  induction m generalizing k with
  | nil => simp at h
  | cons p r ih =>
    cases k with
    | zero => simp [slotCells]
    | succ k =>
      have e : slotCells (p :: r) = .int .i64 p.1 :: .int .i64 p.2 :: slotCells r := by simp [slotCells]
      rw [e, show (k + 1) * 2 = k * 2 + 1 + 1 by omega]
      simp only [List.set_cons_succ]
      rw [ih k (by simpa using h)]
      simp [slotCells]
theorem slotCells_replicate (n : Nat) : slotCells (List.replicate n (0, 0)) = List.replicate (n * 2) (.int .i64 0) := by
  induction n with
  | zero => rfl
  | succ n ih => rw [List.replicate_succ, show (n + 1) * 2 = n * 2 + 1 + 1 by omega, List.replicate_succ, List.replicate_succ, ← ih]; simp [slotCells]
section
variable {base base' n c : Nat} {w w' : World} {A : Option Addr} {l : List (Int × Int)}
theorem OwS.len (h : OwS base w A n c l) : l.length = n := by have := Ow.len h; rw [slotCells_len] at this; omega
theorem OwS.below (h : OwS base w A n c l) (hb : Below w.heap.size w w') : OwS base w' A n c l := Ow.below h hb
theorem OwS.kept {row : Option Nat} (h : OwS base w A n c l) (hg : w.grownBy w' row) (hne : blkOf A = none ∨ blkOf A ≠ row) : OwS base w' A n c l := Ow.kept h hg hne
theorem OwS.mono (h : OwS base w A n c l) (hb : base' ≤ base) : OwS base' w A n c l := Ow.mono h hb
theorem OwS.nil_ : OwS base w none 0 0 [] := Ow.nil_
theorem OwS.rd (h : OwS base w A n c l) : RdS w A n l := Ow.rd h
theorem OwS.blk (h : OwS base w A n c l) {g : Nat} (hA : blkOf A = some g) : base ≤ g ∧ g < w.heap.size := Ow.blk h hA
theorem OwS.form_ (h : OwS base w A n c l) (hn : 0 < n) : ∃ g, A = some ⟨g, 0, none⟩ ∧ base ≤ g ∧ g < w.heap.size := Ow.form_ h hn
theorem OwS.cell_ {g : Nat} (h : OwS base w (some ⟨g, 0, none⟩) n c l) (k : Nat) (hk : k < n) : w.cell? ⟨g, k * 2, none⟩ = some (.int .i64 (l[k]?.getD (0, 0)).1) ∧ w.cell? ⟨g, k * 2 + 1, none⟩ = some (.int .i64 (l[k]?.getD (0, 0)).2) := by
  have hl := h.len
  rw [Ow.cell_ h _ (by omega), Ow.cell_ h _ (by omega)]
  exact ⟨slotCells_get0 l k (by omega), slotCells_get1 l k (by omega)⟩
theorem OwS.frozen_ {g : Nat} (h : OwS base w (some ⟨g, 0, none⟩) n c l) (j : Nat) : w.frozen? ⟨g, j, none⟩ = false := Ow.frozen_ h j
theorem OwS.stored_ {g : Nat} (h : OwS base w (some ⟨g, 0, none⟩) n c l) (k : Nat) (hk : k < n) (a b : Int) :
    OwS base ((w.setCell ⟨g, k * 2, none⟩ (.int .i64 a)).setCell ⟨g, k * 2 + 1, none⟩ (.int .i64 b)) (some ⟨g, 0, none⟩) n c (l.set k (a, b)) ∧
    w.grownBy ((w.setCell ⟨g, k * 2, none⟩ (.int .i64 a)).setCell ⟨g, k * 2 + 1, none⟩ (.int .i64 b)) (some g) := by
  have h1 := Ow.stored_ h (k * 2) (.int .i64 a)
  have h2 := Ow.stored_ h1.1 (k * 2 + 1) (.int .i64 b)
  rw [slotCells_set _ _ _ _ (by rw [h.len]; exact hk)] at h2
  exact ⟨h2.1, h1.2.trans h2.2⟩
end
/-- What a function that hands back slots in new memory ends with. -/
def RetS (w : World) (l : List (Int × Int)) (e : Ending) (w' : World) : Prop := ∃ A n c x, e = .returned (.slice A n c) ∧ w' = ext w x ∧ OwS w.heap.size (ext w x) A n c l
theorem RetS.mk_ {w W : World} {base : Nat} {A : Option Addr} {n c : Nat} {l : List (Int × Int)} (ho : OwS base W A n c l) (hbase : w.heap.size ≤ base) (hb : Below w.heap.size w W) : RetS w l (.returned (.slice A n c)) W := by
  obtain ⟨x, rfl⟩ := ext_ex hb
  exact ⟨A, n, c, x, rfl, rfl, ho.mono hbase⟩
end Go.Proofs.YtpjaiihkgeabiaaDoor
