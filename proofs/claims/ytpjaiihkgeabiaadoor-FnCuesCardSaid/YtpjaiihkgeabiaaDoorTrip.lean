/- Slices of structs of three ints: how they read, and the contracts of the functions that copy, compare and mark them. Conditions: lengths below 2^40. -/
import Derived.Test.YtpjaiihkgeabiaaDoorLawKit
import Derived.StillTailTactics
set_option linter.unusedVariables false
set_option linter.unusedSimpArgs false
set_option maxRecDepth 100000
namespace Go.Proofs.YtpjaiihkgeabiaaDoor
open Go.ChangeShapes Go.WideShapes Go.ChangeAt Go.RowKit
abbrev T3 := Int × Int × Int
def z3 : T3 := (0, 0, 0)
def tripCells (l : List T3) : List Value := l.flatMap fun p => [.int .i64 p.1, .int .i64 p.2.1, .int .i64 p.2.2]
theorem tripCells_cons (a : T3) (r : List T3) : tripCells (a :: r) = .int .i64 a.1 :: .int .i64 a.2.1 :: .int .i64 a.2.2 :: tripCells r := by simp [tripCells]
theorem tripCells_append (a b : List T3) : tripCells (a ++ b) = tripCells a ++ tripCells b := by simp [tripCells]
theorem tripCells_one (l : List T3) (v : Value) (h : v ∈ tripCells l) : v.oneCell' = true := by
  simp only [tripCells, List.mem_flatMap, List.mem_cons, List.not_mem_nil, or_false] at h
  obtain ⟨p, _, h⟩ := h
  rcases h with rfl | rfl | rfl <;> rfl
theorem tripCells_len (l : List T3) : (tripCells l).length = l.length * 3 := by
  induction l with
  | nil => rfl
  | cons a r ih => rw [tripCells_cons]; simp only [List.length_cons, ih]; omega
theorem tripCells_get (l : List T3) (k : Nat) (h : k < l.length) : (tripCells l)[k * 3]? = some (.int .i64 (l[k]?.getD z3).1) ∧ (tripCells l)[k * 3 + 1]? = some (.int .i64 (l[k]?.getD z3).2.1) ∧ (tripCells l)[k * 3 + 2]? = some (.int .i64 (l[k]?.getD z3).2.2) := by
  induction l generalizing k with
  | nil => simp at h
  | cons a r ih =>
    rw [tripCells_cons]
    cases k with
    | zero => simp
    | succ k =>
      have := ih k (by simpa using h)
      rw [show (k + 1) * 3 = k * 3 + 1 + 1 + 1 by omega, show k * 3 + 1 + 1 + 1 + 1 = (k * 3 + 1) + 1 + 1 + 1 by omega, show k * 3 + 1 + 1 + 1 + 2 = (k * 3 + 2) + 1 + 1 + 1 by omega]
      simpa only [List.getElem?_cons_succ] using this
/-- A slice of such structs reads as the list l. -/
def Rd3 (w : World) (A : Option Addr) (n : Nat) (l : List T3) : Prop := Rd 3 w A n (tripCells l)
section
variable {n : Nat} {w w' : World} {A : Option Addr} {l : List T3}
theorem Rd3.below (h : Rd3 w A n l) (hb : Below w.heap.size w w') : Rd3 w' A n l := Rd.below h hb
theorem Rd3.len (h : Rd3 w A n l) : l.length = n := by have := h.1; rw [tripCells_len] at this; omega
theorem Rd3.at_ (h : Rd3 w A n l) (k : Nat) (hk : k < n) : ∃ b off, A = some ⟨b, off, none⟩ ∧ b < w.heap.size ∧ w.cell? ⟨b, off + k * 3, none⟩ = some (.int .i64 (l[k]?.getD z3).1) ∧ w.cell? ⟨b, off + k * 3 + 1, none⟩ = some (.int .i64 (l[k]?.getD z3).2.1) ∧ w.cell? ⟨b, off + k * 3 + 2, none⟩ = some (.int .i64 (l[k]?.getD z3).2.2) := by
  have hl := h.len
  obtain ⟨b, off, e, hlt, hc⟩ := h.2 (by omega)
  obtain ⟨g0, g1, g2⟩ := tripCells_get l k (by omega)
  exact ⟨b, off, e, hlt, hc _ _ g0, hc (k * 3 + 1) _ g1, hc (k * 3 + 2) _ g2⟩
theorem tripCells_take (l : List T3) (k : Nat) : tripCells (l.take k) = (tripCells l).take (k * 3) := by
  induction l generalizing k with
  | nil => simp [tripCells]
  | cons a r ih =>
    cases k with
    | zero => simp [tripCells]
    | succ k =>
      rw [tripCells_cons, show (k + 1) * 3 = k * 3 + 1 + 1 + 1 by omega]
      simp only [List.take_succ_cons, ← ih, tripCells_cons]
theorem Rd3.take_ (h : Rd3 w A n l) (k : Nat) (hk : k ≤ n) : Rd3 w A k (l.take k) := by
  unfold Rd3
  rw [tripCells_take]
  exact Rd.take_ h k hk
theorem Rd3.nil_ : Rd3 w A 0 [] := ⟨by simp [tripCells], fun h => absurd h (by omega)⟩
end
/-- A row of such structs (of type e) of the call's own. -/
def Ow3 (e base : Nat) (w : World) (A : Option Addr) (n c : Nat) (l : List T3) : Prop := Ow e 3 base w A n c (tripCells l)
theorem tripCells_set (m : List T3) (k : Nat) (a b d : Int) (h : k < m.length) : (((tripCells m).set (k * 3) (.int .i64 a)).set (k * 3 + 1) (.int .i64 b)).set (k * 3 + 2) (.int .i64 d) = tripCells (m.set k (a, b, d)) := by
  induction m generalizing k with
  | nil => simp at h
  | cons p r ih =>
    rw [tripCells_cons]
    cases k with
    | zero => simp [tripCells_cons]
    | succ k =>
      rw [show (k + 1) * 3 = k * 3 + 1 + 1 + 1 by omega, show k * 3 + 1 + 1 + 1 + 1 = (k * 3 + 1) + 1 + 1 + 1 by omega, show k * 3 + 1 + 1 + 1 + 2 = (k * 3 + 2) + 1 + 1 + 1 by omega]
      simp only [List.set_cons_succ]
      rw [ih k (by simpa using h), tripCells_cons]
theorem tripCells_replicate (n : Nat) : tripCells (List.replicate n z3) = List.replicate (n * 3) (.int .i64 0) := by
  induction n with
  | zero => rfl
  | succ n ih => rw [List.replicate_succ, tripCells_cons, ih, show (n + 1) * 3 = n * 3 + 1 + 1 + 1 by omega, List.replicate_succ, List.replicate_succ, List.replicate_succ]; rfl
theorem trips_made (n : Nat) : (madeCells (Value.agg #[.int .i64 0, .int .i64 0, .int .i64 0]).cells (n * 3)).toList = tripCells (List.replicate n z3) := by
  rw [tripCells_replicate]
  apply List.ext_getElem?
  intro i
  by_cases h : i < n * 3
  · have h2 : i % 3 = 0 ∨ i % 3 = 1 ∨ i % 3 = 2 := by omega
    rcases h2 with h2 | h2 | h2 <;> simp [madeCells, h, Value.cells, h2]
  · simp [madeCells, h]
section
variable {e base base' n c : Nat} {w w' : World} {A : Option Addr} {l : List T3}
theorem Ow3.len (h : Ow3 e base w A n c l) : l.length = n := by have := Ow.len h; rw [tripCells_len] at this; omega
theorem Ow3.below (h : Ow3 e base w A n c l) (hb : Below w.heap.size w w') : Ow3 e base w' A n c l := Ow.below h hb
theorem Ow3.kept {row : Option Nat} (h : Ow3 e base w A n c l) (hg : w.grownBy w' row) (hne : blkOf A = none ∨ blkOf A ≠ row) : Ow3 e base w' A n c l := Ow.kept h hg hne
theorem Ow3.mono (h : Ow3 e base w A n c l) (hb : base' ≤ base) : Ow3 e base' w A n c l := Ow.mono h hb
theorem Ow3.nil_ : Ow3 e base w none 0 0 [] := Ow.nil_
theorem Ow3.rd (h : Ow3 e base w A n c l) : Rd3 w A n l := Ow.rd h
theorem Ow3.cap_ (h : Ow3 e base w A n c l) : n ≤ c ∧ c ≤ maxLen := Ow.cap_ h
theorem bd3 (h : Ow3 e base w A n c l) (hl : l.length ≤ 1048576) : n ≤ 1099511627776 := by have := h.len; omega
theorem Ow3.blk (h : Ow3 e base w A n c l) {g : Nat} (hA : blkOf A = some g) : base ≤ g ∧ g < w.heap.size := Ow.blk h hA
theorem Ow3.form_ (h : Ow3 e base w A n c l) (hn : 0 < n) : ∃ g, A = some ⟨g, 0, none⟩ ∧ base ≤ g ∧ g < w.heap.size := Ow.form_ h hn
theorem Ow3.cell_ {g : Nat} (h : Ow3 e base w (some ⟨g, 0, none⟩) n c l) (k : Nat) (hk : k < n) : w.cell? ⟨g, k * 3, none⟩ = some (.int .i64 (l[k]?.getD z3).1) ∧ w.cell? ⟨g, k * 3 + 1, none⟩ = some (.int .i64 (l[k]?.getD z3).2.1) ∧ w.cell? ⟨g, k * 3 + 2, none⟩ = some (.int .i64 (l[k]?.getD z3).2.2) := by
  have hl := h.len
  rw [Ow.cell_ h _ (by omega), Ow.cell_ h _ (by omega), Ow.cell_ h _ (by omega)]
  exact tripCells_get l k (by omega)
theorem Ow3.frozen_ {g : Nat} (h : Ow3 e base w (some ⟨g, 0, none⟩) n c l) (j : Nat) : w.frozen? ⟨g, j, none⟩ = false := Ow.frozen_ h j
theorem Ow3.stored_ {g : Nat} (h : Ow3 e base w (some ⟨g, 0, none⟩) n c l) (k : Nat) (hk : k < n) (a b d : Int) :
    Ow3 e base (((w.setCell ⟨g, k * 3, none⟩ (.int .i64 a)).setCell ⟨g, k * 3 + 1, none⟩ (.int .i64 b)).setCell ⟨g, k * 3 + 2, none⟩ (.int .i64 d)) (some ⟨g, 0, none⟩) n c (l.set k (a, b, d)) ∧
    w.grownBy (((w.setCell ⟨g, k * 3, none⟩ (.int .i64 a)).setCell ⟨g, k * 3 + 1, none⟩ (.int .i64 b)).setCell ⟨g, k * 3 + 2, none⟩ (.int .i64 d)) (some g) := by
  have h1 := Ow.stored_ h (k * 3) (.int .i64 a)
  have h2 := Ow.stored_ h1.1 (k * 3 + 1) (.int .i64 b)
  have h3 := Ow.stored_ h2.1 (k * 3 + 2) (.int .i64 d)
  rw [tripCells_set _ _ _ _ _ (by rw [h.len]; exact hk)] at h3
  exact ⟨h3.1, (h1.2.trans h2.2).trans h3.2⟩
end
/-- What a function that hands back such structs in new memory ends with. -/
def Ret3 (e : Nat) (w : World) (l : List T3) (E : Ending) (w' : World) : Prop := ∃ A n c x, E = .returned (.slice A n c) ∧ w' = ext w x ∧ Ow3 e w.heap.size (ext w x) A n c l
theorem Ret3.mk_ {e : Nat} {w W : World} {base : Nat} {A : Option Addr} {n c : Nat} {l : List T3} (ho : Ow3 e base W A n c l) (hbase : w.heap.size ≤ base) (hb : Below w.heap.size w W) : Ret3 e w l (.returned (.slice A n c)) W := by
  obtain ⟨x, rfl⟩ := ext_ex hb
  exact ⟨A, n, c, x, rfl, rfl, ho.mono hbase⟩
def marks3 (q : Int) (n : Nat) : List T3 := (List.range n).map fun (i : Nat) => (q + 3 * i, q + 3 * i + 1, q + 3 * i + 2)
theorem marks3_step (q : Int) (l : List T3) (k : Nat) (h : k < l.length) : (marks3 q k ++ l.drop k).set k (q + 3 * k, q + 3 * k + 1, q + 3 * k + 2) = marks3 q (k + 1) ++ l.drop (k + 1) := by
  have e : (marks3 q k).length = k := by simp [marks3]
  rw [List.set_append_right _ _ (by omega), e, Nat.sub_self, List.drop_eq_getElem_cons h, List.set_cons_zero]
  simp [marks3, List.range_succ]
theorem Cue_info : (Tryd.prog.info? 62).map (fun i => (i.zero, i.size, i.bytes)) = some (some (.agg #[.int .i64 0, .int .i64 0, .int .i64 0]), 3, 24) := by kernel_rfl
end Go.Proofs.YtpjaiihkgeabiaaDoor
