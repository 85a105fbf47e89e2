/- Plain: a stable insertion sort by an integer key, and that any sorted list with the classes in their old order is its result. Conditions: none. -/
import Derived.Test.YtpjaiihkgeabiaaDoorStableP
set_option linter.unusedVariables false
set_option linter.unusedSimpArgs false
set_option maxRecDepth 100000
namespace Go.Proofs.YtpjaiihkgeabiaaDoor
section
variable {α : Type} (key : α → Int)
def insS (x : α) : List α → List α
  | [] => [x]
  | y :: t => if key x < key y then x :: y :: t else y :: insS x t
def stS (L : List α) : List α := L.foldl (fun T x => insS key x T) []
variable {key}
theorem insS_split (x : α) (T : List α) (h : Srt key T) : ∃ p s, T = p ++ s ∧ insS key x T = p ++ x :: s ∧ (∀ y ∈ p, key y ≤ key x) ∧ (∀ y ∈ s, key x < key y) := by
  induction T with
  | nil => exact ⟨[], [], rfl, rfl, by simp, by simp⟩
  | cons y t ih =>
    obtain ⟨h1, h2⟩ := List.pairwise_cons.1 h
    by_cases hlt : key x < key y
    · refine ⟨[], y :: t, rfl, if_pos hlt, by simp, fun z hz => ?_⟩
      rcases List.mem_cons.1 hz with e | hz
      · subst e; exact hlt
      · have := h1 z hz; omega
    · obtain ⟨p, s, e1, e2, e3, e4⟩ := ih h2
      refine ⟨y :: p, s, by rw [e1]; rfl, ?_, fun z hz => ?_, e4⟩
      · rw [insS, if_neg hlt, e2]; rfl
      · rcases List.mem_cons.1 hz with e | hz
        · subst e; omega
        · exact e3 z hz
theorem stS_spec (L : List α) : Srt key (stS key L) ∧ SF key (stS key L) L := by
  have gen : ∀ (M T0 L0 : List α), Srt key T0 → SF key T0 L0 → Srt key (M.foldl (fun T x => insS key x T) T0) ∧ SF key (M.foldl (fun T x => insS key x T) T0) (L0 ++ M) := by
    intro M
    induction M with
    | nil => intro T0 L0 h1 h2; exact ⟨h1, by simpa using h2⟩
    | cons x t ih =>
      intro T0 L0 h1 h2
      obtain ⟨p, s, e1, e2, e3, e4⟩ := insS_split x T0 h1
      have h3 := Srt.insert (p := p) (s := s) (x := x) (e1 ▸ h1) e3 e4
      rw [← e2, ← e1] at h3
      have := ih (insS key x T0) (L0 ++ [x]) h3.1 (h3.2.trans (h2.append (SF.refl _)))
      simpa [List.append_assoc] using this
  simpa [stS] using gen L [] [] Srt.nil (SF.refl _)
theorem stS_eq {T L : List α} (h1 : Srt key T) (h2 : SF key T L) : T = stS key L := h1.unique (stS_spec L).1 (h2.trans (stS_spec L).2.symm)
theorem stS_mem {L : List α} {x : α} (h : x ∈ stS key L) : x ∈ L := (stS_spec L).2.mem h
theorem stS_len (L : List α) : (stS key L).length = L.length := (stS_spec L).2.len
end
end Go.Proofs.YtpjaiihkgeabiaaDoor
