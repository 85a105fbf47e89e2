/- A slice of slots that came in, opened. Conditions: none. -/
import Derived.Test.YtdmaildajmhicaaLift
import Derived.Test.YtdmaildajmhicaaSlots
import Derived.Test.YtdmaildajmhicaaLawKit
set_option linter.unusedVariables false
set_option linter.unusedSimpArgs false
set_option maxRecDepth 100000
namespace Go.Proofs.Ytdmaildajmhicaa
open Go.ChangeShapes Go.WideShapes Go.ChangeAt Go.RowKit
theorem OwS.cap_ {base n c : Nat} {w : World} {A : Option Addr} {l : List (Int × Int)} (h : OwS base w A n c l) : n ≤ c ∧ c ≤ maxLen := Ow.cap_ h
theorem bdS {base n c : Nat} {w : World} {A : Option Addr} {l : List (Int × Int)} (h : OwS base w A n c l) (hl : l.length ≤ 1048576) : n ≤ 1099511627776 := by have := h.len; omega
theorem open_RdS {H : Type} {enc : TypeId × Value → H} {W : World} {r : Reach} {base : Nat} {v : Value} {d : DataW H} {p : List MemPlace}
    (hv : Value.okWide Try.prog W r base 22 v) (h : DataW.Trod enc Try.prog W 0 (fun _ => true) true 22 v d p) :
    ∃ A n c l, v = .slice A n c ∧ RdS W A n l ∧ n ≤ c ∧ c ≤ maxLen := by
  obtain ⟨A, n, c, L, rfl, hnc, hcm, hL, hrow, hc⟩ := open_rows Try.underlying22 Try.underlying76 Try.underlying3 (by kernel_rfl) (by kernel_rfl) (fun j f hf => by
    match j with
    | 0 => simp at hf; rw [← hf]
    | 1 => simp at hf; rw [← hf]
    | j + 2 => simp at hf) (by simp) hv h
  refine ⟨A, n, c, L.map fun r => (r[0]?.getD 0, r[1]?.getD 0), rfl, ⟨by rw [slotCells_len]; simp [hL], fun hn => ?_⟩, hnc, hcm⟩
  obtain ⟨b, off, e, hb, hcell⟩ := hc hn
  refine ⟨b, off, e, hb, fun j u hu => ?_⟩
  have hj : j < n * 2 := by
    have := (List.getElem?_eq_some_iff.1 hu).1
    rw [slotCells_len] at this; simpa [hL] using this
  have h2 : j = j / 2 * 2 + j % 2 := by omega
  rcases (show j % 2 = 0 ∨ j % 2 = 1 by omega) with e0 | e0
  · rw [e0] at h2
    rw [h2, Nat.add_zero, slotCells_get0 _ _ (by simp [hL]; omega)] at hu
    have := hcell (j / 2) 0 (by omega) (by simp)
    simp only [Array.size, List.length_cons, List.length_nil] at this
    rw [show off + j = off + (j / 2 * (0 + 1 + 1) + 0) by omega, this, ← hu]
    simp [hL, show j / 2 < n by omega]
  · rw [e0] at h2
    rw [h2, slotCells_get1 _ _ (by simp [hL]; omega)] at hu
    have := hcell (j / 2) 1 (by omega) (by simp)
    simp only [Array.size, List.length_cons, List.length_nil] at this
    rw [show off + j = off + (j / 2 * (0 + 1 + 1) + 1) by omega, this, ← hu]
    simp [hL, show j / 2 < n by omega]
end Go.Proofs.Ytdmaildajmhicaa
