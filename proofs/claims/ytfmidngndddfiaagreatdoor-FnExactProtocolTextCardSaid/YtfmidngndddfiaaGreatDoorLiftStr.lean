/- A slice of strings that came in, opened. Conditions: none. -/
import Derived.Test.YtfmidngndddfiaaGreatDoorLift
import Derived.Test.YtfmidngndddfiaaGreatDoorStrs
import Derived.SliceStrings
set_option linter.unusedVariables false
set_option linter.unusedSimpArgs false
set_option maxRecDepth 100000
namespace Go.Proofs.YtfmidngndddfiaaGreatDoor
open Go.ChangeShapes Go.WideShapes Go.ChangeAt Go.RowKit
theorem strTotal_ge {w : World} {A : Option Addr} {n : Nat} {l : List ByteArray} (h : RdT w A n l) : (n : Int) ≤ strTotal l := by
  have := h.len; have := strSum_nonneg l; simp only [strTotal]; omega
theorem open_RdT {H : Type} {enc : TypeId × Value → H} {W : World} {r : Reach} {base : Nat} {v : Value} {d : DataW H} {p : List MemPlace}
    (hv : Value.okWide Tryz.prog W r base 77 v) (h : DataW.Trod enc Tryz.prog W 0 (fun _ => true) true 77 v d p) :
    ∃ A n c l, v = .slice A n c ∧ RdT W A n l ∧ n ≤ c ∧ c ≤ maxLen ∧ ∀ s ∈ l, s.size ≤ 9223372036854775807 := by
  obtain ⟨a0, len, cap, rfl⟩ := okWide_slice Tryz.underlying77 hv
  obtain ⟨fuel, hf⟩ := h
  rcases open_strings Tryz.underlying77 Tryz.underlying9 (by kernel_rfl) hf with ⟨hcs, _⟩ | ⟨x, l, c, ss, hcs, _, hl, hm, hz, _, hcell, hws⟩
  · simp [Value.cells] at hcs
    obtain ⟨rfl, rfl, rfl⟩ := hcs
    exact ⟨none, 0, 0, [], rfl, ⟨by simp, fun h => absurd h (by omega)⟩, Nat.le_refl _, by simp [maxLen], by simp⟩
  · simp [Value.cells] at hcs
    obtain ⟨rfl, rfl, rfl⟩ := hcs
    have hzl : ss.length = cap := by simpa using hz
    refine ⟨some x, len, cap, ss.take len, rfl, ⟨?_, fun hn => ?_⟩, hl, hm, fun y hy => ?_⟩
    · simp; omega
    · obtain ⟨b, off, spot⟩ := x
      have hc := hcell 0 (by omega)
      have hspot : spot = none := by simpa [Addr.add] using World.cell?_spot hc
      subst hspot
      have hb : b < W.heap.size := World.block_lt_of_cell? W _ (by simpa [Addr.add] using hc)
      refine ⟨b, off, rfl, hb, fun j u hu => ?_⟩
      simp only [List.getElem?_map, Option.map_eq_some_iff] at hu
      obtain ⟨y, hy, rfl⟩ := hu
      have hj : j < ss.length := by
        have := (List.getElem?_eq_some_iff.1 hy).1
        simp at this; omega
      have h2 := hcell j hj
      have hadd : (⟨b, off, none⟩ : Addr).add j = ⟨b, off + j, none⟩ := by unfold Addr.add; split <;> simp_all
      rw [hadd] at h2
      rw [h2]
      have : ss.getD j ByteArray.empty = y := by
        rw [List.getElem?_take] at hy
        split at hy
        · simp [List.getD, hy]
        · cases hy
      rw [this]
    · have := hws y (List.mem_of_mem_take hy)
      simp only [maxLen] at this
      omega
end Go.Proofs.YtfmidngndddfiaaGreatDoor
