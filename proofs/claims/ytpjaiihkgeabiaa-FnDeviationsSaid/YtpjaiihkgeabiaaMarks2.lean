/- The law file's functions on slices of slices of ints and on Marks. Conditions: lengths below 2^40. -/
import Derived.Test.YtpjaiihkgeabiaaMarks
set_option linter.unusedVariables false
set_option linter.unusedSimpArgs false
set_option maxRecDepth 100000
namespace Go.Proofs.Ytpjaiihkgeabiaa
open Go.ChangeShapes Go.WideShapes Go.ChangeAt Go.RowKit
def szW (left T : Int) : Int := if left < T then -1 else left - T
def lenSum (ll : List (List Int)) : Int := (ll.map fun l => (l.length : Int)).sum
theorem lenSum_succ (ll : List (List Int)) (k : Nat) (h : k < ll.length) : lenSum (ll.take (k + 1)) = lenSum (ll.take k) + ((ll[k]?.getD []).length : Int) := by
  unfold lenSum; rw [take_succ_getD [] ll k h]; simp
theorem lenSum_nonneg (ll : List (List Int)) : 0 ≤ lenSum ll := by
  unfold lenSum
  induction ll with
  | nil => simp
  | cons a r ih => simp only [List.map_cons, List.sum_cons]; omega
theorem lenSum_mono (ll : List (List Int)) (k : Nat) : lenSum (ll.take k) ≤ lenSum ll := by
  have h : ll.take k ++ ll.drop k = ll := List.take_append_drop k ll
  have e : lenSum ll = lenSum (ll.take k) + lenSum (ll.drop k) := by
    unfold lenSum
    rw [← List.sum_append, ← List.map_append, h]
  have := lenSum_nonneg (ll.drop k)
  omega
theorem lenSum_one (ll : List (List Int)) (k : Nat) (h : k < ll.length) : ((ll[k]?.getD []).length : Int) ≤ lenSum ll := by
  have h1 := lenSum_succ ll k h
  have h2 := lenSum_mono ll (k + 1)
  have h3 := lenSum_nonneg (ll.take k)
  omega
def mTotal (ll : List (List Int)) : Int := ll.length + lenSum ll
theorem mTotal_ge (ll : List (List Int)) : (ll.length : Int) ≤ mTotal ll ∧ 0 ≤ mTotal ll := by have := lenSum_nonneg ll; unfold mTotal; omega
theorem mTotal_row {ll : List (List Int)} {k : Nat} (h : k < ll.length) : ((ll[k]?.getD []).length : Int) ≤ mTotal ll := by have := lenSum_one ll k h; unfold mTotal; omega
theorem rows_info : (Try.prog.info? 30).map (fun i => (i.zero, i.size, i.bytes)) = some (some (.slice none 0 0), 1, 24) := by kernel_rfl
theorem rows_made (n : Nat) : (madeCells (Value.slice none 0 0).cells (n * 1)).toList = (List.range n).map fun j => Value.slice ((fun _ => none) j) ((fun _ => 0) j) ((fun _ => 0) j) := by
  have e : (Value.slice none 0 0).cells = #[Value.slice none 0 0] := by simp [Value.cells]
  rw [e, Nat.mul_one, toList_madeCells_one]
  apply List.ext_getElem (by simp)
  intro i h1 h2
  simp
/-- What a function that hands back a slice of slices of ints returns. -/
def RetM (w : World) (ll : List (List Int)) (e : Ending) (w' : World) : Prop := ∃ A n c x, e = .returned (.slice A n c) ∧ w' = ext w x ∧ OwM w.heap.size (ext w x) A n c ll
end Go.Proofs.Ytpjaiihkgeabiaa
