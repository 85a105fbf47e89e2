/- A slice of bytes that came in, opened. Conditions: none. -/
import Derived.Test.YtlfhhkgleapamaaGreatDoorQBase0
import Derived.Test.YtlfhhkgleapamaaGreatDoorQDraws
set_option linter.unusedVariables false
set_option linter.unusedSimpArgs false
set_option maxRecDepth 100000
set_option maxHeartbeats 16000000
namespace Go.Proofs.YtlfhhkgleapamaaGreatDoor
open Go.ChangeShapes Go.WideShapes Go.ChangeAt Go.RowKit Go.Deep
theorem wfY {x : Int} (h : (Lit.int .u8 x).wf = true) : 0 <= x /\ x <= 255 := by
 have e1 : IntKind.u8.min = 0 := by decide
 have e2 : IntKind.u8.max = 255 := by decide
 unfold Lit.wf at h;simp [e1, e2] at h;omega
theorem open_RdY {H : Type} {enc : TypeId × Value -> H} {W : World} {r : Reach} {base : Nat} {v : Value} {d : DataW H} {p : List MemPlace}
  (hv : Value.okWide Tryz.prog W r base 22 v) (h : DataW.Trod enc Tryz.prog W 0 (fun _ => true) true 22 v d p) :
  ∃ A n c l, v = .slice A n c /\ RdY W A n l /\ n <= c /\ c <= maxLen := by
 obtain ⟨a0, len, cap, rfl⟩ := okWide_slice Tryz.underlying22 hv;obtain ⟨fuel, hf⟩ := h
 rcases open_ints Tryz.underlying22 Tryz.underlying5 (by kernel_rfl) hf with ⟨hcs, _⟩ | ⟨x, l, c, zs, hcs, _, hl, hm, hz, _, hcell, hwz⟩
 ·
  simp [Value.cells] at hcs;obtain ⟨rfl, rfl, rfl⟩ := hcs;exact ⟨none, 0, 0, [], rfl, ⟨⟨by simp, Om⟩, by simp⟩, Nat.le_refl _, by simp [maxLen]⟩
 ·
  simp [Value.cells] at hcs;obtain ⟨rfl, rfl, rfl⟩ := hcs;refine ⟨some x, len, cap, zs.take len, rfl, ⟨⟨?_, fun hn => ?_⟩, fun y hy => wfY (hwz y (List.mem_of_mem_take hy))⟩, hl, hm⟩
  ·
   simp; simp at hz; omega
  ·
   obtain ⟨b, off, spot⟩ := x;have hzl : zs.length = cap := by simpa using hz
   have hc := hcell 0 Om;have hspot : spot = none := by simpa [Addr.add] using World.cell?_spot hc
   subst hspot;have hb : b < W.heap.size := World.block_lt_of_cell? W _ (by simpa [Addr.add] using hc);refine ⟨b, off, rfl, hb, fun j u hu => ?_⟩;simp only [List.getElem?_map, Option.map_eq_some_iff] at hu;obtain ⟨y, hy, rfl⟩ := hu;have hj : j < zs.length := by
    have := (List.getElem?_eq_some_iff.1 hy).1;simp at this; omega
   have h2 := hcell j hj;have hadd : (⟨b, off, none⟩ : Addr).add j = ⟨b, off + j, none⟩ := by unfold Addr.add; split <;> simp_all
   rw [hadd] at h2;rw [h2];have : zs.getD j 0 = y := by
    rw [List.getElem?_take] at hy
    split at hy
    ·
     simp [List.getD, hy]
    ·
     cases hy
   rw [this]
end Go.Proofs.YtlfhhkgleapamaaGreatDoor
