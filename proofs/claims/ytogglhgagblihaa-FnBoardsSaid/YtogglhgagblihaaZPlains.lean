/- Plain: stable sorting by an integer key: sorted, and every class of equal keys in its old order; such a list is unique. Conditions: none. -/
import Derived.Test.YtogglhgagblihaaZBase
import Derived.Lib.Slices
set_option linter.unusedVariables false
set_option linter.unusedSimpArgs false
set_option maxRecDepth 100000
namespace Go.Proofs.Ytogglhgagblihaa
section
variable {α : Type} (key : α → Int)
def Srt (l : List α) : Prop := l.Pairwise fun x y => key x ≤ key y
/-- r holds each class of equal keys as l does. -/
def SF (r l : List α) : Prop := ∀ v : Int, r.filter (fun x => key x == v) = l.filter (fun x => key x == v)
variable {key}
theorem SF.refl (l : List α) : SF key l l := fun _ => rfl
theorem SF.trans {a b c : List α} (h : SF key a b) (k : SF key b c) : SF key a c := fun v => (h v).trans (k v)
theorem SF.symm {a b : List α} (h : SF key a b) : SF key b a := fun v => (h v).symm
theorem SF.append {a b c d : List α} (h : SF key a b) (k : SF key c d) : SF key (a ++ c) (b ++ d) := fun v => by rw [List.filter_append, List.filter_append, h v, k v]
theorem SF.swap {X Y : List α} (h : ∀ x ∈ X, ∀ y ∈ Y, key y ≠ key x) : SF key (Y ++ X) (X ++ Y) := fun v => by
  rw [List.filter_append, List.filter_append]
  by_cases hx : X.filter (fun x => key x == v) = []
  · rw [hx]; simp
  · have hy : Y.filter (fun x => key x == v) = [] := by
      obtain ⟨x, hxm⟩ := List.exists_mem_of_ne_nil _ hx
      simp only [List.mem_filter, beq_iff_eq] at hxm
      rw [List.filter_eq_nil_iff]
      intro y hym hyv
      exact h x hxm.1 y hym (by simp at hyv; omega)
    rw [hy]; simp
theorem SF.mem {a b : List α} (h : SF key a b) {x : α} (hx : x ∈ a) : x ∈ b := by
  have : x ∈ a.filter (fun y => key y == key x) := by simp [hx]
  rw [h] at this
  exact (List.mem_filter.1 this).1
theorem SF.len {a b : List α} (h : SF key a b) : a.length = b.length := by
  induction a generalizing b with
  | nil =>
    cases b with
    | nil => rfl
    | cons x t => exact absurd (h.symm.mem (List.mem_cons_self)) (by simp)
  | cons x t ih =>
    have hm : x ∈ b := h.mem List.mem_cons_self
    -- x is the first of its class in b: b = p ++ x :: s with no element of the class in p
    obtain ⟨p, s, e, hp⟩ : ∃ p s, b = p ++ x :: s ∧ p.filter (fun y => key y == key x) = [] := by
      have h1 := h (key x)
      rw [List.filter_cons_of_pos (by simp)] at h1
      clear h ih hm
      induction b with
      | nil => simp at h1
      | cons y u ih =>
        by_cases hy : key y = key x
        · rw [List.filter_cons_of_pos (by simpa using hy)] at h1
          injection h1 with h2 h3
          subst h2
          exact ⟨[], u, rfl, rfl⟩
        · rw [List.filter_cons_of_neg (by simpa using hy)] at h1
          obtain ⟨p, s, e, hp⟩ := ih h1
          exact ⟨y :: p, s, by rw [e]; rfl, by rw [List.filter_cons_of_neg (by simpa using hy)]; exact hp⟩
    have hs : SF key t (p ++ s) := fun v => by
      have h1 := h v
      rw [e, List.filter_append] at h1
      rw [List.filter_append]
      by_cases hv : key x = v
      · subst hv
        rw [hp, List.nil_append, List.filter_cons_of_pos (by simp), List.filter_cons_of_pos (by simp)] at h1
        injection h1 with _ h2
        rw [hp, List.nil_append]; exact h2
      · rw [List.filter_cons_of_neg (by simpa using hv), List.filter_cons_of_neg (by simpa using hv)] at h1
        exact h1
    have := ih hs
    rw [e]; simp at this ⊢; omega
theorem Srt.unique {a b : List α} (ha : Srt key a) (hb : Srt key b) (h : SF key a b) : a = b := by
  induction a generalizing b with
  | nil =>
    have := h.len
    exact (List.eq_nil_of_length_eq_zero (by simpa using this.symm)).symm
  | cons x t ih =>
    cases b with
    | nil => have := h.len; simp at this
    | cons y u =>
      obtain ⟨ha1, ha2⟩ := List.pairwise_cons.1 ha
      obtain ⟨hb1, hb2⟩ := List.pairwise_cons.1 hb
      have hxm : x ∈ y :: u := h.mem List.mem_cons_self
      have hym : y ∈ x :: t := h.symm.mem List.mem_cons_self
      have hk : key x = key y := by
        have h1 : key y ≤ key x := by
          rcases List.mem_cons.1 hxm with e | hm
          · rw [e]; exact Int.le_refl _
          · exact hb1 x hm
        have h2 : key x ≤ key y := by
          rcases List.mem_cons.1 hym with e | hm
          · rw [e]; exact Int.le_refl _
          · exact ha1 y hm
        omega
      have h0 := h (key x)
      rw [List.filter_cons_of_pos (by simp), List.filter_cons_of_pos (by simp [hk])] at h0
      injection h0 with e h1
      subst e
      have hs : SF key t u := fun v => by
        by_cases hv : key x = v
        · subst hv; exact h1
        · have := h v
          rwa [List.filter_cons_of_neg (by simpa using hv), List.filter_cons_of_neg (by simpa using hv)] at this
      rw [ih ha2 hb2 hs]
theorem Srt.nil : Srt key ([] : List α) := List.Pairwise.nil
theorem Srt.one (x : α) : Srt key [x] := by simp [Srt]
theorem Srt.append {a b : List α} (ha : Srt key a) (hb : Srt key b) (h : ∀ x ∈ a, ∀ y ∈ b, key x ≤ key y) : Srt key (a ++ b) := List.pairwise_append.2 ⟨ha, hb, h⟩
theorem Srt.parts {a b : List α} (h : Srt key (a ++ b)) : Srt key a ∧ Srt key b ∧ ∀ x ∈ a, ∀ y ∈ b, key x ≤ key y := List.pairwise_append.1 h
/-- x put into a sorted list behind all that are not greater. -/
theorem Srt.insert {p s : List α} {x : α} (h : Srt key (p ++ s)) (hp : ∀ y ∈ p, key y ≤ key x) (hs : ∀ y ∈ s, key x < key y) : Srt key (p ++ x :: s) ∧ SF key (p ++ x :: s) (p ++ s ++ [x]) := by
  obtain ⟨h1, h2, h3⟩ := h.parts
  constructor
  · refine Srt.append h1 (List.pairwise_cons.2 ⟨fun y hy => by have := hs y hy; omega, h2⟩) (fun a ha b hb => ?_)
    rcases List.mem_cons.1 hb with e | hb
    · subst e; exact hp a ha
    · exact h3 a ha b hb
  · have : SF key ([x] ++ s) (s ++ [x]) := SF.swap (fun a ha b hb => by
      simp at hb; subst hb
      have := hs a ha; omega)
    have := (SF.refl p).append this
    simpa [List.append_assoc] using this
end
end Go.Proofs.Ytogglhgagblihaa
namespace Go.Proofs.Ytogglhgagblihaa
section
variable {α : Type} (key : α → Int)
def insS (x : α) : List α → List α
  | [] => [x]
  | y :: t => if key x < key y then x :: y :: t else y :: insS x t
def stS (L : List α) : List α := L.foldl (fun T x => insS key x T) []
variable {key}
theorem insS_split (x : α) (T : List α) (h : Srt key T) : ∃ p s, T = p ++ s ∧ insS key x T = p ++ x :: s ∧ (∀ y ∈ p, key y ≤ key x) ∧ (∀ y ∈ s, key x < key y) := by
  induction T with
  | nil => exact ⟨[], [], rfl, rfl, by simp, by simp⟩
  | cons y t ih =>
    obtain ⟨h1, h2⟩ := List.pairwise_cons.1 h
    by_cases hlt : key x < key y
    · refine ⟨[], y :: t, rfl, if_pos hlt, by simp, fun z hz => ?_⟩
      rcases List.mem_cons.1 hz with e | hz
      · subst e; exact hlt
      · have := h1 z hz; omega
    · obtain ⟨p, s, e1, e2, e3, e4⟩ := ih h2
      refine ⟨y :: p, s, by rw [e1]; rfl, ?_, fun z hz => ?_, e4⟩
      · rw [insS, if_neg hlt, e2]; rfl
      · rcases List.mem_cons.1 hz with e | hz
        · subst e; omega
        · exact e3 z hz
theorem stS_spec (L : List α) : Srt key (stS key L) ∧ SF key (stS key L) L := by
  have gen : ∀ (M T0 L0 : List α), Srt key T0 → SF key T0 L0 → Srt key (M.foldl (fun T x => insS key x T) T0) ∧ SF key (M.foldl (fun T x => insS key x T) T0) (L0 ++ M) := by
    intro M
    induction M with
    | nil => intro T0 L0 h1 h2; exact ⟨h1, by simpa using h2⟩
    | cons x t ih =>
      intro T0 L0 h1 h2
      obtain ⟨p, s, e1, e2, e3, e4⟩ := insS_split x T0 h1
      have h3 := Srt.insert (p := p) (s := s) (x := x) (e1 ▸ h1) e3 e4
      rw [← e2, ← e1] at h3
      have := ih (insS key x T0) (L0 ++ [x]) h3.1 (h3.2.trans (h2.append (SF.refl _)))
      simpa [List.append_assoc] using this
  simpa [stS] using gen L [] [] Srt.nil (SF.refl _)
theorem stS_eq {T L : List α} (h1 : Srt key T) (h2 : SF key T L) : T = stS key L := h1.unique (stS_spec L).1 (h2.trans (stS_spec L).2.symm)
theorem stS_mem {L : List α} {x : α} (h : x ∈ stS key L) : x ∈ L := (stS_spec L).2.mem h
theorem stS_len (L : List α) : (stS key L).length = L.length := (stS_spec L).2.len
end
end Go.Proofs.Ytogglhgagblihaa
namespace Go.Proofs.Ytogglhgagblihaa
def leI (x y : Int) : Bool := decide (x ≤ y)
def sortI (l : List Int) : List Int := l.mergeSort fun x y => decide (x ≤ y)
theorem sortI_perm (l : List Int) : (sortI l).Perm l := List.mergeSort_perm l _
theorem sortI_len (l : List Int) : (sortI l).length = l.length := (sortI_perm l).length_eq
theorem sortI_sorted (l : List Int) : (sortI l).Pairwise (· ≤ ·) := by
  have := List.pairwise_mergeSort (le := fun x y : Int => decide (x ≤ y)) (fun a b c h1 h2 => by simp at *; omega) (fun a b => by simp; omega) l
  exact this.imp (fun h => by simpa using h)
theorem sortI_unique {l m : List Int} (hp : m.Perm l) (hs : m.Pairwise (· ≤ ·)) : m = sortI l :=
  List.Perm.eq_of_pairwise (le := (· ≤ ·)) (fun a b _ _ h1 h2 => by omega) hs (sortI_sorted l) (hp.trans (sortI_perm l).symm)
/-- Where x is put into a sorted list, looked for from place k downwards. -/
def insK (out : List Int) (x : Int) : Nat → Nat
  | 0 => 0
  | k + 1 => if x < out[k]?.getD 0 then insK out x k else k + 1
def insI (out : List Int) (x : Int) : List Int := out.take (insK out x out.length) ++ [x] ++ out.drop (insK out x out.length)
theorem insK_spec (out : List Int) (x : Int) (m : Nat) : insK out x m ≤ m ∧ (∀ j, insK out x m ≤ j → j < m → x < out[j]?.getD 0) ∧ (insK out x m = 0 ∨ out[insK out x m - 1]?.getD 0 ≤ x) := by
  induction m with
  | zero => simp [insK]
  | succ m ih =>
    unfold insK
    by_cases h : x < out[m]?.getD 0
    · rw [if_pos h]
      refine ⟨by omega, fun j h1 h2 => ?_, ih.2.2⟩
      by_cases e : j = m
      · subst e; exact h
      · exact ih.2.1 j h1 (by omega)
    · rw [if_neg h]
      exact ⟨by omega, fun j h1 h2 => by omega, .inr (by simpa using h)⟩
theorem insK_step {out : List Int} {x : Int} {k : Nat} (h : x < out[k]?.getD 0) : insK out x (k + 1) = insK out x k := by simp [insK, h]
theorem insK_stop {out : List Int} {x : Int} {k : Nat} (h : ¬ x < out[k]?.getD 0) : insK out x (k + 1) = k + 1 := by simp [insK, h]
theorem insI_perm (out : List Int) (x : Int) : (insI out x).Perm (x :: out) := by
  unfold insI
  rw [List.append_assoc]
  have := List.perm_middle (a := x) (l₁ := out.take (insK out x out.length)) (l₂ := out.drop (insK out x out.length))
  rw [List.take_append_drop] at this
  exact this
theorem insI_len (out : List Int) (x : Int) : (insI out x).length = out.length + 1 := by rw [(insI_perm out x).length_eq]; simp
theorem pw_get {l : List Int} (h : l.Pairwise (· ≤ ·)) {i j : Nat} (hij : i ≤ j) (hj : j < l.length) : l[i]?.getD 0 ≤ l[j]?.getD 0 := by
  have hi : i < l.length := by omega
  by_cases e : i = j
  · subst e; exact Int.le_refl _
  · have := (List.pairwise_iff_getElem.1 h) i j hi hj (by omega)
    simpa [hi, hj] using this
theorem insI_sorted {out : List Int} {x : Int} (h : out.Pairwise (· ≤ ·)) : (insI out x).Pairwise (· ≤ ·) := by
  obtain ⟨h1, h2, h3⟩ := insK_spec out x out.length
  unfold insI
  generalize insK out x out.length = k at *
  have hdrop : ∀ b ∈ out.drop k, x ≤ b := fun b hb => by
    obtain ⟨i, hi, rfl⟩ := List.mem_iff_getElem.1 hb
    simp only [List.length_drop] at hi
    have := h2 (k + i) (by omega) (by omega)
    simp [show k + i < out.length by omega] at this
    simp; omega
  have htake : ∀ a ∈ out.take k, a ≤ x := fun a ha => by
    obtain ⟨i, hi, rfl⟩ := List.mem_iff_getElem.1 ha
    simp only [List.length_take] at hi
    rcases h3 with h3 | h3
    · omega
    · have := pw_get h (i := i) (j := k - 1) (by omega) (by omega)
      simp [show i < out.length by omega] at this
      simp; omega
  rw [List.append_assoc]
  refine List.pairwise_append.2 ⟨h.sublist (List.take_sublist k out), ?_, fun a ha b hb => ?_⟩
  · exact List.pairwise_cons.2 ⟨hdrop, h.sublist (List.drop_sublist k out)⟩
  · have ha' := htake a ha
    simp only [List.singleton_append, List.mem_cons] at hb
    rcases hb with rfl | hb
    · exact ha'
    · have := hdrop b hb; omega
/-- The reference's insertion sort of the first k. -/
def isortTo (l : List Int) (k : Nat) : List Int := (l.take k).foldl insI []
theorem isortTo_succ (l : List Int) (k : Nat) (h : k < l.length) : isortTo l (k + 1) = insI (isortTo l k) (l[k]?.getD 0) := by
  unfold isortTo; rw [take_succ_getD 0 l k h, List.foldl_append]; rfl
theorem isortTo_spec (l : List Int) (k : Nat) (h : k ≤ l.length) : (isortTo l k).Perm (l.take k) ∧ (isortTo l k).Pairwise (· ≤ ·) := by
  induction k with
  | zero => simp [isortTo]
  | succ k ih =>
    obtain ⟨h1, h2⟩ := ih (by omega)
    rw [isortTo_succ l k (by omega), take_succ_getD 0 l k (by omega)]
    refine ⟨((insI_perm _ _).trans (List.Perm.cons _ h1)).trans ?_, insI_sorted h2⟩
    exact (List.perm_append_comm (l₁ := [l[k]?.getD 0]) (l₂ := l.take k))
theorem isortTo_len (l : List Int) (k : Nat) (h : k ≤ l.length) : (isortTo l k).length = k := by rw [(isortTo_spec l k h).1.length_eq]; simp; omega
theorem isort_eq (l : List Int) : isortTo l l.length = sortI l := by
  obtain ⟨h1, h2⟩ := isortTo_spec l l.length (Nat.le_refl _)
  rw [List.take_length] at h1
  exact sortI_unique h1 h2
/-- Least and greatest. -/
theorem foldl_max_spec (l : List Int) (a : Int) : a ≤ l.foldl max a ∧ (∀ x ∈ l, x ≤ l.foldl max a) ∧ (l.foldl max a = a ∨ l.foldl max a ∈ l) := by
  induction l generalizing a with
  | nil => simp
  | cons b r ih =>
    obtain ⟨h1, h2, h3⟩ := ih (max a b)
    simp only [List.foldl_cons]
    refine ⟨by omega, fun x hx => ?_, ?_⟩
    · rcases List.mem_cons.1 hx with rfl | hx
      · omega
      · exact h2 x hx
    · rcases h3 with h3 | h3
      · by_cases e : a ≤ b
        · right; rw [h3, show max a b = b by omega]; simp
        · left; rw [h3]; omega
      · right; exact List.mem_cons_of_mem _ h3
theorem foldl_min_spec (l : List Int) (a : Int) : l.foldl min a ≤ a ∧ (∀ x ∈ l, l.foldl min a ≤ x) ∧ (l.foldl min a = a ∨ l.foldl min a ∈ l) := by
  induction l generalizing a with
  | nil => simp
  | cons b r ih =>
    obtain ⟨h1, h2, h3⟩ := ih (min a b)
    simp only [List.foldl_cons]
    refine ⟨by omega, fun x hx => ?_, ?_⟩
    · rcases List.mem_cons.1 hx with rfl | hx
      · omega
      · exact h2 x hx
    · rcases h3 with h3 | h3
      · by_cases e : b ≤ a
        · right; rw [h3, show min a b = b by omega]; simp
        · left; rw [h3]; omega
      · right; exact List.mem_cons_of_mem _ h3
theorem maxOf_mem {l : List Int} (h : 0 < l.length) : Lib.maxOf l ∈ l ∧ ∀ x ∈ l, x ≤ Lib.maxOf l := by
  cases l with
  | nil => simp at h
  | cons a r =>
    obtain ⟨h1, h2, h3⟩ := foldl_max_spec (a :: r) a
    refine ⟨?_, h2⟩
    rcases h3 with h3 | h3
    · unfold Lib.maxOf; simp only [List.headD_cons]; rw [h3]; simp
    · exact h3
theorem minOf_mem {l : List Int} (h : 0 < l.length) : Lib.minOf l ∈ l ∧ ∀ x ∈ l, Lib.minOf l ≤ x := by
  cases l with
  | nil => simp at h
  | cons a r =>
    obtain ⟨h1, h2, h3⟩ := foldl_min_spec (a :: r) a
    refine ⟨?_, h2⟩
    rcases h3 with h3 | h3
    · unfold Lib.minOf; simp only [List.headD_cons]; rw [h3]; simp
    · exact h3
theorem sortI_last {l : List Int} (h : 0 < l.length) : (sortI l)[l.length - 1]?.getD 0 = Lib.maxOf l := by
  obtain ⟨h1, h2⟩ := maxOf_mem h
  have hl := sortI_len l
  have m1 : (sortI l)[l.length - 1]?.getD 0 ∈ l := (sortI_perm l).mem_iff.1 (getD_mem 0 _ _ (by omega))
  have h3 := h2 _ m1
  obtain ⟨i, hi, e⟩ := List.mem_iff_getElem.1 ((sortI_perm l).mem_iff.2 h1)
  have := pw_get (sortI_sorted l) (i := i) (j := l.length - 1) (by omega) (by omega)
  simp only [List.getElem?_eq_getElem hi, Option.getD_some, e] at this
  omega
theorem sortI_first {l : List Int} (h : 0 < l.length) : (sortI l)[0]?.getD 0 = Lib.minOf l := by
  obtain ⟨h1, h2⟩ := minOf_mem h
  have hl := sortI_len l
  have m1 : (sortI l)[0]?.getD 0 ∈ l := (sortI_perm l).mem_iff.1 (getD_mem 0 _ _ (by omega))
  have h3 := h2 _ m1
  obtain ⟨i, hi, e⟩ := List.mem_iff_getElem.1 ((sortI_perm l).mem_iff.2 h1)
  have := pw_get (sortI_sorted l) (i := 0) (j := i) (by omega) (by omega)
  simp only [List.getElem?_eq_getElem hi, Option.getD_some, e] at this
  omega
end Go.Proofs.Ytogglhgagblihaa
