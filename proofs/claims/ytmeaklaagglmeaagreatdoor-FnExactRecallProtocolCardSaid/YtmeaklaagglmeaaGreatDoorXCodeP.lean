/- Codes of points: names, elements, how a slice of elements reads, when a code is valid. Conditions: none. -/
import Derived.Test.YtmeaklaagglmeaaGreatDoorXStrs
import Derived.Test.YtmeaklaagglmeaaGreatDoorXInts
set_option linter.unusedVariables false
set_option linter.unusedSimpArgs false
set_option maxRecDepth 100000
namespace Go.Proofs.YtmeaklaagglmeaaGreatDoor
open Go.RowKit
def byteN (s : ByteArray) (i : Nat) : Nat := if h : i < s.size then s[i].toNat else 0
def okC (b : Nat) : Bool := (decide (65 ≤ b) && decide (b ≤ 90)) || (decide (48 ≤ b) && decide (b ≤ 57))
def namesTo (s : ByteArray) (k : Nat) : Bool := (List.range k).all fun i => okC (byteN s i)
def nameB (s : ByteArray) : Bool := namesTo s s.size && inB s.size 1 5
theorem namesTo_succ (s : ByteArray) (k : Nat) : namesTo s (k + 1) = (namesTo s k && okC (byteN s k)) := by simp [namesTo, List.range_succ]
theorem name_no {s : ByteArray} {k : Nat} (hk : k < s.size) (h : okC (byteN s k) = false) : nameB s = false := by
 unfold nameB
 rw [Bool.and_eq_false_iff]; left
 rw [Bool.eq_false_iff]; intro hh
 have := List.all_eq_true.1 hh k (by simpa using hk)
 rw [h] at this; cases this
theorem name_end {s : ByteArray} (h : namesTo s s.size = true) : nameB s = inB s.size 1 5 := by rw [nameB, h, Bool.true_and]
abbrev El := ByteArray × Int × Int × Int
def zEl : El := (ByteArray.empty, 0, 0, 0)
def elCells (l : List El) : List Value := l.flatMap fun p => [.string p.1, .int .i64 p.2.1, .int .i64 p.2.2.1, .int .i64 p.2.2.2]
theorem elCells_cons (a : El) (r : List El) : elCells (a :: r) = .string a.1 :: .int .i64 a.2.1 :: .int .i64 a.2.2.1 :: .int .i64 a.2.2.2 :: elCells r := by simp [elCells]
theorem elCells_len (l : List El) : (elCells l).length = l.length * 4 := by
 induction l with
 | nil => rfl
 | cons a r ih => rw [elCells_cons]; simp only [List.length_cons, ih]; omega
theorem elCells_get (l : List El) (k : Nat) (h : k < l.length) : (elCells l)[k * 4]? = some (.string (l[k]?.getD zEl).1) ∧ (elCells l)[k * 4 + 1]? = some (.int .i64 (l[k]?.getD zEl).2.1) ∧ (elCells l)[k * 4 + 2]? = some (.int .i64 (l[k]?.getD zEl).2.2.1) ∧ (elCells l)[k * 4 + 3]? = some (.int .i64 (l[k]?.getD zEl).2.2.2) := by
 induction l generalizing k with
 | nil => simp at h
 | cons a r ih =>
  rw [elCells_cons]
  cases k with
  | zero => simp
  | succ k =>
   have := ih k (by simpa using h)
   rw [show (k + 1) * 4 = k * 4 + 1 + 1 + 1 + 1 by omega, show k * 4 + 1 + 1 + 1 + 1 + 1 = (k * 4 + 1) + 1 + 1 + 1 + 1 by omega, show k * 4 + 1 + 1 + 1 + 1 + 2 = (k * 4 + 2) + 1 + 1 + 1 + 1 by omega, show k * 4 + 1 + 1 + 1 + 1 + 3 = (k * 4 + 3) + 1 + 1 + 1 + 1 by omega]
   simpa only [List.getElem?_cons_succ] using this
def RdEl (w : World) (A : Option Addr) (n : Nat) (l : List El) : Prop := Rd 4 w A n (elCells l)
section
variable {n : Nat} {w w' : World} {A : Option Addr} {l : List El}
theorem RdEl.below (h : RdEl w A n l) (hb : Below w.heap.size w w') : RdEl w' A n l := Rd.below h hb
theorem RdEl.len (h : RdEl w A n l) : l.length = n := by have := h.1; rw [elCells_len] at this; omega
theorem RdEl.at_ (h : RdEl w A n l) (k : Nat) (hk : k < n) : ∃ b off, A = some ⟨b, off, none⟩ ∧ b < w.heap.size ∧ w.cell? ⟨b, off + k * 4, none⟩ = some (.string (l[k]?.getD zEl).1) ∧ w.cell? ⟨b, off + k * 4 + 1, none⟩ = some (.int .i64 (l[k]?.getD zEl).2.1) ∧ w.cell? ⟨b, off + k * 4 + 2, none⟩ = some (.int .i64 (l[k]?.getD zEl).2.2.1) ∧ w.cell? ⟨b, off + k * 4 + 3, none⟩ = some (.int .i64 (l[k]?.getD zEl).2.2.2) := by
 have hl := h.len
 obtain ⟨b, off, e, hlt, hc⟩ := h.2 (by omega)
 obtain ⟨g0, g1, g2, g3⟩ := elCells_get l k (by omega)
 exact ⟨b, off, e, hlt, hc _ _ g0, hc (k * 4 + 1) _ g1, hc (k * 4 + 2) _ g2, hc (k * 4 + 3) _ g3⟩
end
end Go.Proofs.YtmeaklaagglmeaaGreatDoor
