/- The library's symMerge of ints: one element against a sorted range. Conditions: lengths below 2^40. -/
import Derived.Test.YtpjaiihkgeabiaaDoorStable2
set_option linter.unusedVariables false
set_option linter.unusedSimpArgs false
set_option maxRecDepth 100000
namespace Go.Proofs.YtpjaiihkgeabiaaDoor
open Go.RowKit
section
variable {P T U : List Int} {x : Int} {q r : Nat} {key : Int → Int}
theorem insD_above (hq : q ≤ r) (hr : r < T.length) : (insD P T x U q)[P.length + r + 1]?.getD 0 = T[r]?.getD 0 := by
  unfold insD
  rw [List.append_assoc, List.getElem?_append_right (by simp; omega)]
  have e : P.length + r + 1 - (P ++ T.take q).length = (r - q) + 1 := by simp; omega
  rw [e, List.cons_append, List.getElem?_cons_succ, List.getElem?_append_left (by simp; omega), List.getElem?_drop, show q + (r - q) = r by omega]
theorem insD_swapUp (hq : q < T.length) : ((insD P T x U q).set (P.length + q) (T[q]?.getD 0)).set (P.length + q + 1) x = insD P T x U (q + 1) := by
  have e1 : T.take (q + 1) = T.take q ++ [T[q]?.getD 0] := take_succ_getD 0 T q hq
  have e2 : T.drop q = (T[q]?.getD 0) :: T.drop (q + 1) := by rw [List.drop_eq_getElem_cons hq]; simp [hq]
  have hl : (P ++ T.take q).length = P.length + q := by simp; omega
  unfold insD
  rw [e1, e2]
  generalize T[q]?.getD 0 = y
  rw [show P ++ (T.take q ++ [y]) ++ x :: T.drop (q + 1) ++ U = (P ++ T.take q) ++ (y :: x :: (T.drop (q + 1) ++ U)) by simp,
    show P ++ T.take q ++ x :: (y :: T.drop (q + 1)) ++ U = (P ++ T.take q) ++ (x :: y :: (T.drop (q + 1) ++ U)) by simp]
  rw [List.set_append_right _ _ (by omega), List.set_append_right _ _ (by omega), hl]
  simp [show P.length + q + 1 - (P.length + q) = 1 by omega]
theorem Srt.upto (h : Srt key T) (hq : q < T.length) : ∀ z ∈ T.take (q + 1), key z ≤ key (T[q]?.getD 0) := fun z hz => by
  obtain ⟨u, hu, rfl⟩ := List.mem_iff_getElem.1 hz
  simp only [List.length_take] at hu
  by_cases e : u = q
  · subst e; simp [hq]
  · have := (List.pairwise_iff_getElem.1 h) u q (by omega) hq (by omega)
    simpa [hq] using this
theorem Srt.from (h : Srt key T) (hq : q < T.length) : ∀ z ∈ T.drop q, key (T[q]?.getD 0) ≤ key z := fun z hz => by
  obtain ⟨u, hu, rfl⟩ := List.mem_iff_getElem.1 hz
  simp only [List.length_drop] at hu
  by_cases e : u = 0
  · subst e; simp [hq]
  · have := (List.pairwise_iff_getElem.1 h) q (q + u) hq (by omega) (by omega)
    simpa [hq] using this
/-- x put into a sorted list ahead of all that are not smaller. -/
theorem Srt.insertL {p s : List Int} (h : Srt key (p ++ s)) (hp : ∀ y ∈ p, key y < key x) (hs : ∀ y ∈ s, key x ≤ key y) : Srt key (p ++ x :: s) ∧ SF key (p ++ x :: s) ([x] ++ (p ++ s)) := by
  obtain ⟨h1, h2, h3⟩ := h.parts
  constructor
  · refine Srt.append h1 (List.pairwise_cons.2 ⟨hs, h2⟩) (fun a ha b hb => ?_)
    rcases List.mem_cons.1 hb with e | hb
    · subst e; have := hp a ha; omega
    · exact h3 a ha b hb
  · have : SF key (p ++ [x]) ([x] ++ p) := SF.swap (fun a ha b hb => by
      simp at ha; subst ha
      have := hp b hb; omega)
    have := this.append (SF.refl s)
    simpa [List.append_assoc] using this
end
end Go.Proofs.YtpjaiihkgeabiaaDoor
