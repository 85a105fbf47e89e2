/- Plain: sorted lists of ints; the insertion sort of the reference is the sort. Conditions: none. -/
import Derived.Test.YtmeaklaagglmeaaGreatDoorXPlain
import Derived.Lib.Slices
set_option linter.unusedVariables false
set_option linter.unusedSimpArgs false
set_option maxRecDepth 100000
namespace Go.Proofs.YtmeaklaagglmeaaGreatDoor
def sortI (l : List Int) : List Int := l.mergeSort fun x y => decide (x ≤ y)
theorem sortI_perm (l : List Int) : (sortI l).Perm l := List.mergeSort_perm l _
theorem sortI_len (l : List Int) : (sortI l).length = l.length := (sortI_perm l).length_eq
theorem sortI_sorted (l : List Int) : (sortI l).Pairwise (· ≤ ·) := by
 have := List.pairwise_mergeSort (le := fun x y : Int => decide (x ≤ y)) (fun a b c h1 h2 => by simp at *; omega) (fun a b => by simp; omega) l
 exact this.imp (fun h => by simpa using h)
theorem sortI_unique {l m : List Int} (hp : m.Perm l) (hs : m.Pairwise (· ≤ ·)) : m = sortI l :=
 List.Perm.eq_of_pairwise (le := (· ≤ ·)) (fun a b _ _ h1 h2 => by omega) hs (sortI_sorted l) (hp.trans (sortI_perm l).symm)
def insK (out : List Int) (x : Int) : Nat → Nat
 | 0 => 0
 | k + 1 => if x < out[k]?.getD 0 then insK out x k else k + 1
def insI (out : List Int) (x : Int) : List Int := out.take (insK out x out.length) ++ [x] ++ out.drop (insK out x out.length)
theorem insK_spec (out : List Int) (x : Int) (m : Nat) : insK out x m ≤ m ∧ (∀ j, insK out x m ≤ j → j < m → x < out[j]?.getD 0) ∧ (insK out x m = 0 ∨ out[insK out x m - 1]?.getD 0 ≤ x) := by
 induction m with
 | zero => simp [insK]
 | succ m ih =>
  unfold insK
  by_cases h : x < out[m]?.getD 0
  ·
   rw [if_pos h]
   refine ⟨by omega, fun j h1 h2 => ?_, ih.2.2⟩
   by_cases e : j = m
   ·
    subst e; exact h
   ·
    exact ih.2.1 j h1 (by omega)
  ·
   rw [if_neg h]
   exact ⟨by omega, fun j h1 h2 => by omega, .inr (by simpa using h)⟩
theorem insK_step {out : List Int} {x : Int} {k : Nat} (h : x < out[k]?.getD 0) : insK out x (k + 1) = insK out x k := by simp [insK, h]
theorem insK_stop {out : List Int} {x : Int} {k : Nat} (h : ¬ x < out[k]?.getD 0) : insK out x (k + 1) = k + 1 := by simp [insK, h]
theorem insI_perm (out : List Int) (x : Int) : (insI out x).Perm (x :: out) := by
 unfold insI
 rw [List.append_assoc]
 have := List.perm_middle (a := x) (l₁ := out.take (insK out x out.length)) (l₂ := out.drop (insK out x out.length))
 rw [List.take_append_drop] at this
 exact this
theorem pw_get {l : List Int} (h : l.Pairwise (· ≤ ·)) {i j : Nat} (hij : i ≤ j) (hj : j < l.length) : l[i]?.getD 0 ≤ l[j]?.getD 0 := by
 have hi : i < l.length := by omega
 by_cases e : i = j
 ·
  subst e; exact Int.le_refl _
 ·
  have := (List.pairwise_iff_getElem.1 h) i j hi hj (by omega)
  simpa [hi, hj] using this
theorem insI_sorted {out : List Int} {x : Int} (h : out.Pairwise (· ≤ ·)) : (insI out x).Pairwise (· ≤ ·) := by
 obtain ⟨h1, h2, h3⟩ := insK_spec out x out.length
 unfold insI
 generalize insK out x out.length = k at *
 have hdrop : ∀ b ∈ out.drop k, x ≤ b := fun b hb => by
  obtain ⟨i, hi, rfl⟩ := List.mem_iff_getElem.1 hb
  simp only [List.length_drop] at hi
  have := h2 (k + i) (by omega) (by omega)
  simp [show k + i < out.length by omega] at this
  simp; omega
 have htake : ∀ a ∈ out.take k, a ≤ x := fun a ha => by
  obtain ⟨i, hi, rfl⟩ := List.mem_iff_getElem.1 ha
  simp only [List.length_take] at hi
  rcases h3 with h3 | h3
  ·
   omega
  ·
   have := pw_get h (i := i) (j := k - 1) (by omega) (by omega)
   simp [show i < out.length by omega] at this
   simp; omega
 rw [List.append_assoc]
 refine List.pairwise_append.2 ⟨h.sublist (List.take_sublist k out), ?_, fun a ha b hb => ?_⟩
 ·
  exact List.pairwise_cons.2 ⟨hdrop, h.sublist (List.drop_sublist k out)⟩
 ·
  have ha' := htake a ha
  simp only [List.singleton_append, List.mem_cons] at hb
  rcases hb with rfl | hb
  ·
   exact ha'
  ·
   have := hdrop b hb; omega
def isortTo (l : List Int) (k : Nat) : List Int := (l.take k).foldl insI []
theorem isortTo_succ (l : List Int) (k : Nat) (h : k < l.length) : isortTo l (k + 1) = insI (isortTo l k) (l[k]?.getD 0) := by
 unfold isortTo; rw [take_succ_getD 0 l k h, List.foldl_append]; rfl
theorem isortTo_spec (l : List Int) (k : Nat) (h : k ≤ l.length) : (isortTo l k).Perm (l.take k) ∧ (isortTo l k).Pairwise (· ≤ ·) := by
 induction k with
 | zero => simp [isortTo]
 | succ k ih =>
  obtain ⟨h1, h2⟩ := ih (by omega)
  rw [isortTo_succ l k (by omega), take_succ_getD 0 l k (by omega)]
  refine ⟨((insI_perm _ _).trans (List.Perm.cons _ h1)).trans ?_, insI_sorted h2⟩
  exact (List.perm_append_comm (l₁ := [l[k]?.getD 0]) (l₂ := l.take k))
theorem isortTo_len (l : List Int) (k : Nat) (h : k ≤ l.length) : (isortTo l k).length = k := by rw [(isortTo_spec l k h).1.length_eq]; simp; omega
theorem isort_eq (l : List Int) : isortTo l l.length = sortI l := by
 obtain ⟨h1, h2⟩ := isortTo_spec l l.length (Nat.le_refl _)
 rw [List.take_length] at h1
 exact sortI_unique h1 h2
theorem foldl_max_spec (l : List Int) (a : Int) : a ≤ l.foldl max a ∧ (∀ x ∈ l, x ≤ l.foldl max a) ∧ (l.foldl max a = a ∨ l.foldl max a ∈ l) := by
 induction l generalizing a with
 | nil => simp
 | cons b r ih =>
  obtain ⟨h1, h2, h3⟩ := ih (max a b)
  simp only [List.foldl_cons]
  refine ⟨by omega, fun x hx => ?_, ?_⟩
  ·
   rcases List.mem_cons.1 hx with rfl | hx
   ·
    omega
   ·
    exact h2 x hx
  ·
   rcases h3 with h3 | h3
   ·
    by_cases e : a ≤ b
    ·
     right; rw [h3, show max a b = b by omega]; simp
    ·
     left; rw [h3]; omega
   ·
    right; exact List.mem_cons_of_mem _ h3
theorem foldl_min_spec (l : List Int) (a : Int) : l.foldl min a ≤ a ∧ (∀ x ∈ l, l.foldl min a ≤ x) ∧ (l.foldl min a = a ∨ l.foldl min a ∈ l) := by
 induction l generalizing a with
 | nil => simp
 | cons b r ih =>
  obtain ⟨h1, h2, h3⟩ := ih (min a b)
  simp only [List.foldl_cons]
  refine ⟨by omega, fun x hx => ?_, ?_⟩
  ·
   rcases List.mem_cons.1 hx with rfl | hx
   ·
    omega
   ·
    exact h2 x hx
  ·
   rcases h3 with h3 | h3
   ·
    by_cases e : b ≤ a
    ·
     right; rw [h3, show min a b = b by omega]; simp
    ·
     left; rw [h3]; omega
   ·
    right; exact List.mem_cons_of_mem _ h3
theorem maxOf_mem {l : List Int} (h : 0 < l.length) : Lib.maxOf l ∈ l ∧ ∀ x ∈ l, x ≤ Lib.maxOf l := by
 cases l with
 | nil => simp at h
 | cons a r =>
  obtain ⟨h1, h2, h3⟩ := foldl_max_spec (a :: r) a
  refine ⟨?_, h2⟩
  rcases h3 with h3 | h3
  ·
   unfold Lib.maxOf; simp only [List.headD_cons]; rw [h3]; simp
  ·
   exact h3
theorem minOf_mem {l : List Int} (h : 0 < l.length) : Lib.minOf l ∈ l ∧ ∀ x ∈ l, Lib.minOf l ≤ x := by
 cases l with
 | nil => simp at h
 | cons a r =>
  obtain ⟨h1, h2, h3⟩ := foldl_min_spec (a :: r) a
  refine ⟨?_, h2⟩
  rcases h3 with h3 | h3
  ·
   unfold Lib.minOf; simp only [List.headD_cons]; rw [h3]; simp
  ·
   exact h3
theorem sortI_last {l : List Int} (h : 0 < l.length) : (sortI l)[l.length - 1]?.getD 0 = Lib.maxOf l := by
 obtain ⟨h1, h2⟩ := maxOf_mem h
 have hl := sortI_len l
 have m1 : (sortI l)[l.length - 1]?.getD 0 ∈ l := (sortI_perm l).mem_iff.1 (getD_mem 0 _ _ (by omega))
 have h3 := h2 _ m1
 obtain ⟨i, hi, e⟩ := List.mem_iff_getElem.1 ((sortI_perm l).mem_iff.2 h1)
 have := pw_get (sortI_sorted l) (i := i) (j := l.length - 1) (by omega) (by omega)
 simp only [List.getElem?_eq_getElem hi, Option.getD_some, e] at this
 omega
theorem sortI_first {l : List Int} (h : 0 < l.length) : (sortI l)[0]?.getD 0 = Lib.minOf l := by
 obtain ⟨h1, h2⟩ := minOf_mem h
 have hl := sortI_len l
 have m1 : (sortI l)[0]?.getD 0 ∈ l := (sortI_perm l).mem_iff.1 (getD_mem 0 _ _ (by omega))
 have h3 := h2 _ m1
 obtain ⟨i, hi, e⟩ := List.mem_iff_getElem.1 ((sortI_perm l).mem_iff.2 h1)
 have := pw_get (sortI_sorted l) (i := 0) (j := i) (by omega) (by omega)
 simp only [List.getElem?_eq_getElem hi, Option.getD_some, e] at this
 omega
end Go.Proofs.YtmeaklaagglmeaaGreatDoor
