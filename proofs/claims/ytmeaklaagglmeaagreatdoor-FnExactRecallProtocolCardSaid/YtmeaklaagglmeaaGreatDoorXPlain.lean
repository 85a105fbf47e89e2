/- Plain lemmas on lists: what a loop that has seen the first k elements knows. Conditions: none. -/
import Derived.Test.YtmeaklaagglmeaaGreatDoorRows
set_option linter.unusedVariables false
set_option linter.unusedSimpArgs false
set_option maxRecDepth 100000
namespace Go.Proofs.YtmeaklaagglmeaaGreatDoor
section
variable {α : Type} (d : α)
theorem take_succ_getD (l : List α) (k : Nat) (h : k < l.length) : l.take (k + 1) = l.take k ++ [l[k]?.getD d] := by
 rw [List.take_succ_eq_append_getElem h]; simp [h]
theorem getD_mem (l : List α) (k : Nat) (h : k < l.length) : l[k]?.getD d ∈ l := by simp [h]
theorem any_hit {P : α → Bool} {l : List α} {k : Nat} (h : k < l.length) (hp : P (l[k]?.getD d) = true) : l.any P = true := List.any_eq_true.2 ⟨_, getD_mem d l k h, hp⟩
theorem any_step {P : α → Bool} {l : List α} {k : Nat} (h : k < l.length) (ht : (l.take k).any P = false) (hp : P (l[k]?.getD d) = false) : (l.take (k + 1)).any P = false := by
 rw [take_succ_getD d l k h, List.any_append, ht]; simp only [List.any_cons, List.any_nil, Bool.or_false, Bool.false_or]; exact hp
theorem any_end {P : α → Bool} {l : List α} {k : Nat} (ht : (l.take k).any P = false) (h : l.length ≤ k) : l.any P = false := by
 rwa [List.take_of_length_le h] at ht
theorem all_miss {P : α → Bool} {l : List α} {k : Nat} (h : k < l.length) (hp : P (l[k]?.getD d) = false) : l.all P = false := by
 rw [Bool.eq_false_iff]; intro hh; have := List.all_eq_true.1 hh _ (getD_mem d l k h); rw [hp] at this; cases this
theorem all_step {P : α → Bool} {l : List α} {k : Nat} (h : k < l.length) (ht : (l.take k).all P = true) (hp : P (l[k]?.getD d) = true) : (l.take (k + 1)).all P = true := by
 rw [take_succ_getD d l k h, List.all_append, ht]; simp only [List.all_cons, List.all_nil, Bool.and_true]; exact hp
theorem all_end {P : α → Bool} {l : List α} {k : Nat} (ht : (l.take k).all P = true) (h : l.length ≤ k) : l.all P = true := by
 rwa [List.take_of_length_le h] at ht
end
theorem ret_int {a b : Int} (h : a = b) : Ending.returned (.int .i64 a) = .returned (.int .i64 b) := by rw [h]
theorem ret_bool {a b : Bool} (h : a = b) : Ending.returned (.bool a) = .returned (.bool b) := by rw [h]
theorem eq_take_ne {l r : List Int} {n k : Nat} (hl : l.length = n) (hr : r.length = n) (hk : k < n) (h : (l[k]?.getD 0 != r[k]?.getD 0) = true) : (l == r) = false := by
 rw [beq_eq_false_iff_ne]; rintro rfl; simp at h
theorem eq_take_step {l r : List Int} {n k : Nat} (hl : l.length = n) (hr : r.length = n) (hk : k < n) (ht : l.take k = r.take k) (h : (l[k]?.getD 0 != r[k]?.getD 0) = false) : l.take (k + 1) = r.take (k + 1) := by
 rw [take_succ_getD 0 l k (by omega), take_succ_getD 0 r k (by omega), ht]
 simp only [bne_eq_false_iff_eq] at h
 rw [h]
theorem eq_take_end {l r : List Int} {n k : Nat} (hl : l.length = n) (hr : r.length = n) (hk : n ≤ k) (ht : l.take k = r.take k) : (l == r) = true := by
 rw [List.take_of_length_le (by omega), List.take_of_length_le (by omega)] at ht
 subst ht; simp
theorem eq_len_ne {l r : List Int} (h : l.length ≠ r.length) : (l == r) = false := by
 rw [beq_eq_false_iff_ne]; rintro rfl; exact h rfl
def fillL {α : Type} (l : List α) (k n : Nat) (z : α) : List α := l.take k ++ List.replicate (n - k) z
section
variable {α : Type} (l : List α) (k n : Nat) (z : α)
theorem fillL_zero : fillL l 0 n z = List.replicate n z := by simp [fillL]
theorem fillL_end (h : l.length = n) : fillL l n n z = l := by subst h; simp [fillL]
theorem fillL_step (h : l.length = n) (hk : k < n) : (fillL l k n z).set k (l[k]?.getD z) = fillL l (k + 1) n z := by
 unfold fillL
 have hl : (l.take k).length = k := by simp; omega
 rw [List.set_append_right _ _ (by omega), hl, Nat.sub_self, take_succ_getD z l k (by omega)]
 obtain ⟨m, hm⟩ : ∃ m, n - k = m + 1 := ⟨n - k - 1, by omega⟩
 have : n - (k + 1) = m := by omega
 rw [hm, this, List.replicate_succ]
 simp
end
def firstIdx (p : Nat → Bool) (n : Nat) : Nat × Bool := match (List.range n).find? p with
 | some i => (i, true)
 | none => (0, false)
theorem firstIdx_hit {p : Nat → Bool} {n k : Nat} (hk : k < n) (hb : ∀ j, j < k → p j = false) (h : p k = true) : firstIdx p n = (k, true) := by
 have : (List.range n).find? p = some k := by
  rw [List.find?_range_eq_some]
  exact ⟨h, by simpa using hk, fun j hj => by rw [hb j hj]; rfl⟩
 rw [firstIdx, this]
theorem firstIdx_none {p : Nat → Bool} {n : Nat} (h : ∀ j, j < n → p j = false) : firstIdx p n = (0, false) := by
 have : (List.range n).find? p = none := by
  rw [List.find?_eq_none]
  intro x hx
  rw [h x (by simpa using hx)]
  simp
 rw [firstIdx, this]
end Go.Proofs.YtmeaklaagglmeaaGreatDoor
