/- Plain: stable sorting by an integer key: sorted, and every class of equal keys in its old order; such a list is unique. Conditions: none. -/
import Derived.Test.YtpjaiihkgeabiaaDoorPlain
set_option linter.unusedVariables false
set_option linter.unusedSimpArgs false
set_option maxRecDepth 100000
namespace Go.Proofs.YtpjaiihkgeabiaaDoor
section
variable {α : Type} (key : α → Int)
def Srt (l : List α) : Prop := l.Pairwise fun x y => key x ≤ key y
/-- r holds each class of equal keys as l does. -/
def SF (r l : List α) : Prop := ∀ v : Int, r.filter (fun x => key x == v) = l.filter (fun x => key x == v)
variable {key}
theorem SF.refl (l : List α) : SF key l l := fun _ => rfl
theorem SF.trans {a b c : List α} (h : SF key a b) (k : SF key b c) : SF key a c := fun v => (h v).trans (k v)
theorem SF.symm {a b : List α} (h : SF key a b) : SF key b a := fun v => (h v).symm
theorem SF.append {a b c d : List α} (h : SF key a b) (k : SF key c d) : SF key (a ++ c) (b ++ d) := fun v => by rw [List.filter_append, List.filter_append, h v, k v]
theorem SF.swap {X Y : List α} (h : ∀ x ∈ X, ∀ y ∈ Y, key y ≠ key x) : SF key (Y ++ X) (X ++ Y) := fun v => by
  rw [List.filter_append, List.filter_append]
  by_cases hx : X.filter (fun x => key x == v) = []
  · rw [hx]; simp
  · have hy : Y.filter (fun x => key x == v) = [] := by
      obtain ⟨x, hxm⟩ := List.exists_mem_of_ne_nil _ hx
      simp only [List.mem_filter, beq_iff_eq] at hxm
      rw [List.filter_eq_nil_iff]
      intro y hym hyv
      exact h x hxm.1 y hym (by simp at hyv; omega)
    rw [hy]; simp
theorem SF.mem {a b : List α} (h : SF key a b) {x : α} (hx : x ∈ a) : x ∈ b := by
  have : x ∈ a.filter (fun y => key y == key x) := by simp [hx]
  rw [h] at this
  exact (List.mem_filter.1 this).1
theorem SF.len {a b : List α} (h : SF key a b) : a.length = b.length := by
  induction a generalizing b with
  | nil =>
    cases b with
    | nil => rfl
    | cons x t => exact absurd (h.symm.mem (List.mem_cons_self)) (by simp)
  | cons x t ih =>
    have hm : x ∈ b := h.mem List.mem_cons_self
    -- x is the first of its class in b: b = p ++ x :: s with no element of the class in p
    obtain ⟨p, s, e, hp⟩ : ∃ p s, b = p ++ x :: s ∧ p.filter (fun y => key y == key x) = [] := by
      have h1 := h (key x)
      rw [List.filter_cons_of_pos (by simp)] at h1
      clear h ih hm
      induction b with
      | nil => simp at h1
      | cons y u ih =>
        by_cases hy : key y = key x
        · rw [List.filter_cons_of_pos (by simpa using hy)] at h1
          injection h1 with h2 h3
          subst h2
          exact ⟨[], u, rfl, rfl⟩
        · rw [List.filter_cons_of_neg (by simpa using hy)] at h1
          obtain ⟨p, s, e, hp⟩ := ih h1
          exact ⟨y :: p, s, by rw [e]; rfl, by rw [List.filter_cons_of_neg (by simpa using hy)]; exact hp⟩
    have hs : SF key t (p ++ s) := fun v => by
      have h1 := h v
      rw [e, List.filter_append] at h1
      rw [List.filter_append]
      by_cases hv : key x = v
      · subst hv
        rw [hp, List.nil_append, List.filter_cons_of_pos (by simp), List.filter_cons_of_pos (by simp)] at h1
        injection h1 with _ h2
        rw [hp, List.nil_append]; exact h2
      · rw [List.filter_cons_of_neg (by simpa using hv), List.filter_cons_of_neg (by simpa using hv)] at h1
        exact h1
    have := ih hs
    rw [e]; simp at this ⊢; omega
theorem Srt.unique {a b : List α} (ha : Srt key a) (hb : Srt key b) (h : SF key a b) : a = b := by
  induction a generalizing b with
  | nil =>
    have := h.len
    exact (List.eq_nil_of_length_eq_zero (by simpa using this.symm)).symm
  | cons x t ih =>
    cases b with
    | nil => have := h.len; simp at this
    | cons y u =>
      obtain ⟨ha1, ha2⟩ := List.pairwise_cons.1 ha
      obtain ⟨hb1, hb2⟩ := List.pairwise_cons.1 hb
      have hxm : x ∈ y :: u := h.mem List.mem_cons_self
      have hym : y ∈ x :: t := h.symm.mem List.mem_cons_self
      have hk : key x = key y := by
        have h1 : key y ≤ key x := by
          rcases List.mem_cons.1 hxm with e | hm
          · rw [e]; exact Int.le_refl _
          · exact hb1 x hm
        have h2 : key x ≤ key y := by
          rcases List.mem_cons.1 hym with e | hm
          · rw [e]; exact Int.le_refl _
          · exact ha1 y hm
        omega
      have h0 := h (key x)
      rw [List.filter_cons_of_pos (by simp), List.filter_cons_of_pos (by simp [hk])] at h0
      injection h0 with e h1
      subst e
      have hs : SF key t u := fun v => by
        by_cases hv : key x = v
        · subst hv; exact h1
        · have := h v
          rwa [List.filter_cons_of_neg (by simpa using hv), List.filter_cons_of_neg (by simpa using hv)] at this
      rw [ih ha2 hb2 hs]
theorem Srt.nil : Srt key ([] : List α) := List.Pairwise.nil
theorem Srt.one (x : α) : Srt key [x] := by simp [Srt]
theorem Srt.append {a b : List α} (ha : Srt key a) (hb : Srt key b) (h : ∀ x ∈ a, ∀ y ∈ b, key x ≤ key y) : Srt key (a ++ b) := List.pairwise_append.2 ⟨ha, hb, h⟩
theorem Srt.parts {a b : List α} (h : Srt key (a ++ b)) : Srt key a ∧ Srt key b ∧ ∀ x ∈ a, ∀ y ∈ b, key x ≤ key y := List.pairwise_append.1 h
/-- x put into a sorted list behind all that are not greater. -/
theorem Srt.insert {p s : List α} {x : α} (h : Srt key (p ++ s)) (hp : ∀ y ∈ p, key y ≤ key x) (hs : ∀ y ∈ s, key x < key y) : Srt key (p ++ x :: s) ∧ SF key (p ++ x :: s) (p ++ s ++ [x]) := by
  obtain ⟨h1, h2, h3⟩ := h.parts
  constructor
  · refine Srt.append h1 (List.pairwise_cons.2 ⟨fun y hy => by have := hs y hy; omega, h2⟩) (fun a ha b hb => ?_)
    rcases List.mem_cons.1 hb with e | hb
    · subst e; exact hp a ha
    · exact h3 a ha b hb
  · have : SF key ([x] ++ s) (s ++ [x]) := SF.swap (fun a ha b hb => by
      simp at hb; subst hb
      have := hs a ha; omega)
    have := (SF.refl p).append this
    simpa [List.append_assoc] using this
end
end Go.Proofs.YtpjaiihkgeabiaaDoor
