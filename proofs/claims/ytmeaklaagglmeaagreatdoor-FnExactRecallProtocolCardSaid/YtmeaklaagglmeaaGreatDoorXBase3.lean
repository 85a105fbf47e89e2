/- Contracts: the worths of an item's names, an item's full base in the program. Conditions: lengths below 2^40; a valid code, a known item. -/
import Derived.Test.YtmeaklaagglmeaaGreatDoorXBase2
import Derived.Test.YtmeaklaagglmeaaGreatDoorXSorts
set_option linter.unusedVariables false
set_option linter.unusedSimpArgs false
set_option maxRecDepth 100000
namespace Go.Proofs.YtmeaklaagglmeaaGreatDoor
open Go.RowKit
set_option maxHeartbeats 2000000 in
theorem worths_any (w : World) (A B : Option Addr) (n m c d : Nat) (els : List El) (q0 q1 q2 q3 : Int) (NA MA : Option Addr) (nn nc mn mc : Nat) (it : It) (ha : RdEl w A n els) (hn : n ≤ 1099511627776) (hC : CodeG els q0 q1 q2) (hN : RdT w NA nn it.1) (hM : RdI w MA mn it.2.1) (hI : ItG els it) :
  Calls Tryz.prog 246 #[.agg #[.slice A n c, .slice B m d, .int .i64 q0, .int .i64 q1, .int .i64 q2, .int .i64 q3], .agg #[.slice NA nn nc, .slice MA mn mc, .bool it.2.2]] w (RetI w (wTo els q2 it nn)) := by
 have Hn := Lib.hid hN.len
 have Hm := Lib.hid hM.len
 have hI1 := hI.1.2
 have hIm := hI.2.1
 rw [Hn.out] at hI1 hIm
 rw [Hm.out] at hIm
 obtain rfl := hIm.symm
 obtain ⟨hq1, hq2⟩ := hC.2.2
 have hkn := hI.2.2
 rw [Hn.out] at hkn
 have hB := hC.1
 have Hel := Lib.hid ha.len
 obtain ⟨late, hlate⟩ : ∃ l, it.2.2 = l := ⟨_, rfl⟩
 rw [hlate]
 clear hlate hC hI
 go_enter Tryz.func246, Tryz.ntmps246
 go_wp2
 go_loopw [5, 6, 7, 12] (fun t _ _ i wr => ∃ (k : Nat) (D : Option Addr) (dc : Nat) (y : World), k ≤ nn ∧ i = .int .i64 k ∧ t = .slice D k dc ∧ wr = ext ((w.alloc (.cells #[.slice A n c, .slice B m d, .int .i64 q0, .int .i64 q1, .int .i64 q2, .int .i64 q3] 39)).alloc (.cells #[.slice NA nn nc, .slice MA nn mc, .bool late] 70)) y ∧ OwI ((w.alloc (.cells #[.slice A n c, .slice B m d, .int .i64 q0, .int .i64 q1, .int .i64 q2, .int .i64 q3] 39)).alloc (.cells #[.slice NA nn nc, .slice MA nn mc, .bool late] 70)).heap.size (ext ((w.alloc (.cells #[.slice A n c, .slice B m d, .int .i64 q0, .int .i64 q1, .int .i64 q2, .int .i64 q3] 39)).alloc (.cells #[.slice NA nn nc, .slice MA nn mc, .bool late] 70)) y) D k dc (wTo els q2 it k)) (fun _ _ _ i _ => nn - (intOf i).toNat)
 case atStart => 
  obtain ⟨y, hy⟩ := ext_ex (show Below ((w.alloc (.cells #[.slice A n c, .slice B m d, .int .i64 q0, .int .i64 q1, .int .i64 q2, .int .i64 q3] 39)).alloc (.cells #[.slice NA nn nc, .slice MA nn mc, .bool late] 70)).heap.size ((w.alloc (.cells #[.slice A n c, .slice B m d, .int .i64 q0, .int .i64 q1, .int .i64 q2, .int .i64 q3] 39)).alloc (.cells #[.slice NA nn nc, .slice MA nn mc, .bool late] 70)) (((w.alloc (.cells #[.slice A n c, .slice B m d, .int .i64 q0, .int .i64 q1, .int .i64 q2, .int .i64 q3] 39)).alloc (.cells #[.slice NA nn nc, .slice MA nn mc, .bool late] 70)).alloc (.cells #[] 3)) from bl)
  have o0 := OwI.lit_ (Below.refl _ ((w.alloc (.cells #[.slice A n c, .slice B m d, .int .i64 q0, .int .i64 q1, .int .i64 q2, .int .i64 q3] 39)).alloc (.cells #[.slice NA nn nc, .slice MA nn mc, .bool late] 70))) [] (by simp [maxLen]) #[] rfl
  rw [hy] at o0
  exact ⟨0, _, 0, y, by omega, rfl, rfl, hy, by simpa [go_sem, wTo] using o0⟩
 case round =>
  obtain ⟨k, D, dc, y, hk, rfl, rfl, rfl, ho⟩ := hrel
  by_cases hlt : k < nn
  ·
   obtain ⟨bn, on, rfl, hbn, hcn⟩ := hN.open_ (by omega)
   obtain ⟨bm, om, rfl, hbm, hcm⟩ := hM.open_ (by omega)
   have hcnk : w.cell? ⟨bn, on + k, none⟩ = some (.string (nmAt it k)) := hcn k hlt
   have hcmk : w.cell? ⟨bm, om + k, none⟩ = some (.int .i64 (mkAt it k)) := by have := hcm k (by omega); rwa [List.getD_eq_getElem?_getD] at this
   obtain ⟨i, hfi, hin⟩ := findE_nat (show 0 ≤ findE els (nmAt it k) from hkn k hlt)
   have HS := Lib.hid (show wTo els q2 it (k + 1) = wTo els q2 it k ++ [worthV q2 (els[i]?.getD zEl).2.2.2 (mkAt it k)] by rw [wTo_succ, wAt, hfi]; rfl)
   have hbd := hB i hin
   rw [Hel.out] at hin
   have ha0 := ha
   obtain ⟨b, off, rfl, hb0, hc0, hc1, hc2, hc3⟩ := ha.at_ i hin
   have cf := fun W (h : Below w.heap.size w W) => findElement_any W (some ⟨b, off, none⟩) B n m c d els q0 q1 q2 q3 (nmAt it k) (ha0.below h) hn
   simp only [hfi] at cf
   clear hcn hcm hkn hfi ha hB
   have hkb : k ≤ 1099511627776 := by omega
   generalize wTo els q2 it k = out at *
   generalize nmAt it k = nm at *
   generalize mkAt it k = mk at *
   generalize els[i]?.getD zEl = E at *
   obtain ⟨e0, e1, e2, e3⟩ := E
   simp only at hc0 hc1 hc2 hc3 hbd HS
   have cw := fun W => worthOf_any W (some ⟨b, off, none⟩) B n m c d q0 q1 q2 q3 e0 e1 e2 e3 mk hbd.1 hbd.2 hq2.1 hq2.2
   generalize worthV q2 e3 mk = v at *
   have hR : ((w.alloc (.cells #[.slice (some ⟨b, off, none⟩) n c, .slice B m d, .int .i64 q0, .int .i64 q1, .int .i64 q2, .int .i64 q3] 39)).alloc (.cells #[.slice (some ⟨bn, on, none⟩) nn nc, .slice (some ⟨bm, om, none⟩) nn mc, .bool late] 70)).cell? ⟨w.heap.size, 0, none⟩ = some (.slice (some ⟨b, off, none⟩) n c) ∧ ((w.alloc (.cells #[.slice (some ⟨b, off, none⟩) n c, .slice B m d, .int .i64 q0, .int .i64 q1, .int .i64 q2, .int .i64 q3] 39)).alloc (.cells #[.slice (some ⟨bn, on, none⟩) nn nc, .slice (some ⟨bm, om, none⟩) nn mc, .bool late] 70)).cell? ⟨w.heap.size, 1, none⟩ = some (.slice B m d) ∧ ((w.alloc (.cells #[.slice (some ⟨b, off, none⟩) n c, .slice B m d, .int .i64 q0, .int .i64 q1, .int .i64 q2, .int .i64 q3] 39)).alloc (.cells #[.slice (some ⟨bn, on, none⟩) nn nc, .slice (some ⟨bm, om, none⟩) nn mc, .bool late] 70)).cell? ⟨w.heap.size, 2, none⟩ = some (.int .i64 q0) ∧ ((w.alloc (.cells #[.slice (some ⟨b, off, none⟩) n c, .slice B m d, .int .i64 q0, .int .i64 q1, .int .i64 q2, .int .i64 q3] 39)).alloc (.cells #[.slice (some ⟨bn, on, none⟩) nn nc, .slice (some ⟨bm, om, none⟩) nn mc, .bool late] 70)).cell? ⟨w.heap.size, 3, none⟩ = some (.int .i64 q1) ∧ ((w.alloc (.cells #[.slice (some ⟨b, off, none⟩) n c, .slice B m d, .int .i64 q0, .int .i64 q1, .int .i64 q2, .int .i64 q3] 39)).alloc (.cells #[.slice (some ⟨bn, on, none⟩) nn nc, .slice (some ⟨bm, om, none⟩) nn mc, .bool late] 70)).cell? ⟨w.heap.size, 4, none⟩ = some (.int .i64 q2) ∧ ((w.alloc (.cells #[.slice (some ⟨b, off, none⟩) n c, .slice B m d, .int .i64 q0, .int .i64 q1, .int .i64 q2, .int .i64 q3] 39)).alloc (.cells #[.slice (some ⟨bn, on, none⟩) nn nc, .slice (some ⟨bm, om, none⟩) nn mc, .bool late] 70)).cell? ⟨w.heap.size, 5, none⟩ = some (.int .i64 q3) ∧ ((w.alloc (.cells #[.slice (some ⟨b, off, none⟩) n c, .slice B m d, .int .i64 q0, .int .i64 q1, .int .i64 q2, .int .i64 q3] 39)).alloc (.cells #[.slice (some ⟨bn, on, none⟩) nn nc, .slice (some ⟨bm, om, none⟩) nn mc, .bool late] 70)).cell? ⟨w.heap.size + 1, 0, none⟩ = some (.slice (some ⟨bn, on, none⟩) nn nc) ∧ ((w.alloc (.cells #[.slice (some ⟨b, off, none⟩) n c, .slice B m d, .int .i64 q0, .int .i64 q1, .int .i64 q2, .int .i64 q3] 39)).alloc (.cells #[.slice (some ⟨bn, on, none⟩) nn nc, .slice (some ⟨bm, om, none⟩) nn mc, .bool late] 70)).cell? ⟨w.heap.size + 1, 1, none⟩ = some (.slice (some ⟨bm, om, none⟩) nn mc) ∧ ((w.alloc (.cells #[.slice (some ⟨b, off, none⟩) n c, .slice B m d, .int .i64 q0, .int .i64 q1, .int .i64 q2, .int .i64 q3] 39)).alloc (.cells #[.slice (some ⟨bn, on, none⟩) nn nc, .slice (some ⟨bm, om, none⟩) nn mc, .bool late] 70)).cell? ⟨w.heap.size + 1, 2, none⟩ = some (.bool late) ∧ ((w.alloc (.cells #[.slice (some ⟨b, off, none⟩) n c, .slice B m d, .int .i64 q0, .int .i64 q1, .int .i64 q2, .int .i64 q3] 39)).alloc (.cells #[.slice (some ⟨bn, on, none⟩) nn nc, .slice (some ⟨bm, om, none⟩) nn mc, .bool late] 70)).cell? ⟨bm, om + k, none⟩ = some (.int .i64 mk) ∧ ((w.alloc (.cells #[.slice (some ⟨b, off, none⟩) n c, .slice B m d, .int .i64 q0, .int .i64 q1, .int .i64 q2, .int .i64 q3] 39)).alloc (.cells #[.slice (some ⟨bn, on, none⟩) nn nc, .slice (some ⟨bm, om, none⟩) nn mc, .bool late] 70)).cell? ⟨b, off + i * 4, none⟩ = some (.string e0) ∧ ((w.alloc (.cells #[.slice (some ⟨b, off, none⟩) n c, .slice B m d, .int .i64 q0, .int .i64 q1, .int .i64 q2, .int .i64 q3] 39)).alloc (.cells #[.slice (some ⟨bn, on, none⟩) nn nc, .slice (some ⟨bm, om, none⟩) nn mc, .bool late] 70)).cell? ⟨b, off + i * 4 + 1, none⟩ = some (.int .i64 e1) ∧ ((w.alloc (.cells #[.slice (some ⟨b, off, none⟩) n c, .slice B m d, .int .i64 q0, .int .i64 q1, .int .i64 q2, .int .i64 q3] 39)).alloc (.cells #[.slice (some ⟨bn, on, none⟩) nn nc, .slice (some ⟨bm, om, none⟩) nn mc, .bool late] 70)).cell? ⟨b, off + i * 4 + 2, none⟩ = some (.int .i64 e2) ∧ ((w.alloc (.cells #[.slice (some ⟨b, off, none⟩) n c, .slice B m d, .int .i64 q0, .int .i64 q1, .int .i64 q2, .int .i64 q3] 39)).alloc (.cells #[.slice (some ⟨bn, on, none⟩) nn nc, .slice (some ⟨bm, om, none⟩) nn mc, .bool late] 70)).cell? ⟨b, off + i * 4 + 3, none⟩ = some (.int .i64 e3) := by refine ⟨?_, ?_, ?_, ?_, ?_, ?_, ?_, ?_, ?_, ?_, ?_, ?_, ?_, ?_⟩ <;> first | assumption | simp [*, go_sem]
   have hS := fun (W : World) (h : Below ((w.alloc (.cells #[.slice (some ⟨b, off, none⟩) n c, .slice B m d, .int .i64 q0, .int .i64 q1, .int .i64 q2, .int .i64 q3] 39)).alloc (.cells #[.slice (some ⟨bn, on, none⟩) nn nc, .slice (some ⟨bm, om, none⟩) nn mc, .bool late] 70)).heap.size ((w.alloc (.cells #[.slice (some ⟨b, off, none⟩) n c, .slice B m d, .int .i64 q0, .int .i64 q1, .int .i64 q2, .int .i64 q3] 39)).alloc (.cells #[.slice (some ⟨bn, on, none⟩) nn nc, .slice (some ⟨bm, om, none⟩) nn mc, .bool late] 70)) W) => (⟨(h.cell (p := ⟨w.heap.size, 0, none⟩) (by first | assumption | (simp [go_sem]; done) | (simp [go_sem]; omega))).trans hR.1, (h.cell (p := ⟨w.heap.size, 1, none⟩) (by first | assumption | (simp [go_sem]; done) | (simp [go_sem]; omega))).trans hR.2.1, (h.cell (p := ⟨w.heap.size, 2, none⟩) (by first | assumption | (simp [go_sem]; done) | (simp [go_sem]; omega))).trans hR.2.2.1, (h.cell (p := ⟨w.heap.size, 3, none⟩) (by first | assumption | (simp [go_sem]; done) | (simp [go_sem]; omega))).trans hR.2.2.2.1, (h.cell (p := ⟨w.heap.size, 4, none⟩) (by first | assumption | (simp [go_sem]; done) | (simp [go_sem]; omega))).trans hR.2.2.2.2.1, (h.cell (p := ⟨w.heap.size, 5, none⟩) (by first | assumption | (simp [go_sem]; done) | (simp [go_sem]; omega))).trans hR.2.2.2.2.2.1, (h.cell (p := ⟨w.heap.size + 1, 0, none⟩) (by first | assumption | (simp [go_sem]; done) | (simp [go_sem]; omega))).trans hR.2.2.2.2.2.2.1, (h.cell (p := ⟨w.heap.size + 1, 1, none⟩) (by first | assumption | (simp [go_sem]; done) | (simp [go_sem]; omega))).trans hR.2.2.2.2.2.2.2.1, (h.cell (p := ⟨w.heap.size + 1, 2, none⟩) (by first | assumption | (simp [go_sem]; done) | (simp [go_sem]; omega))).trans hR.2.2.2.2.2.2.2.2.1, (h.cell (p := ⟨bm, om + k, none⟩) (by first | assumption | (simp [go_sem]; done) | (simp [go_sem]; omega))).trans hR.2.2.2.2.2.2.2.2.2.1, (h.cell (p := ⟨b, off + i * 4, none⟩) (by first | assumption | (simp [go_sem]; done) | (simp [go_sem]; omega))).trans hR.2.2.2.2.2.2.2.2.2.2.1, (h.cell (p := ⟨b, off + i * 4 + 1, none⟩) (by first | assumption | (simp [go_sem]; done) | (simp [go_sem]; omega))).trans hR.2.2.2.2.2.2.2.2.2.2.2.1, (h.cell (p := ⟨b, off + i * 4 + 2, none⟩) (by first | assumption | (simp [go_sem]; done) | (simp [go_sem]; omega))).trans hR.2.2.2.2.2.2.2.2.2.2.2.2.1, (h.cell (p := ⟨b, off + i * 4 + 3, none⟩) (by first | assumption | (simp [go_sem]; done) | (simp [go_sem]; omega))).trans hR.2.2.2.2.2.2.2.2.2.2.2.2.2⟩ : W.cell? ⟨w.heap.size, 0, none⟩ = some (.slice (some ⟨b, off, none⟩) n c) ∧ W.cell? ⟨w.heap.size, 1, none⟩ = some (.slice B m d) ∧ W.cell? ⟨w.heap.size, 2, none⟩ = some (.int .i64 q0) ∧ W.cell? ⟨w.heap.size, 3, none⟩ = some (.int .i64 q1) ∧ W.cell? ⟨w.heap.size, 4, none⟩ = some (.int .i64 q2) ∧ W.cell? ⟨w.heap.size, 5, none⟩ = some (.int .i64 q3) ∧ W.cell? ⟨w.heap.size + 1, 0, none⟩ = some (.slice (some ⟨bn, on, none⟩) nn nc) ∧ W.cell? ⟨w.heap.size + 1, 1, none⟩ = some (.slice (some ⟨bm, om, none⟩) nn mc) ∧ W.cell? ⟨w.heap.size + 1, 2, none⟩ = some (.bool late) ∧ W.cell? ⟨bm, om + k, none⟩ = some (.int .i64 mk) ∧ W.cell? ⟨b, off + i * 4, none⟩ = some (.string e0) ∧ W.cell? ⟨b, off + i * 4 + 1, none⟩ = some (.int .i64 e1) ∧ W.cell? ⟨b, off + i * 4 + 2, none⟩ = some (.int .i64 e2) ∧ W.cell? ⟨b, off + i * 4 + 3, none⟩ = some (.int .i64 e3))
   clear hR
   have fn1 := ((by repeat (first | exact Below.refl _ _ | assumption | refine bExt ?_ _ | refine bAlloc ?_ _ | refine bDrewN ?_ _ | refine bDrew ?_ | refine bSet ?_ (by first | exact Nat.le_refl _ | omega | (simp; done) | (simp; omega)) _) : Below w.heap.size w (ext ((w.alloc (.cells #[.slice (some ⟨b, off, none⟩) n c, .slice B m d, .int .i64 q0, .int .i64 q1, .int .i64 q2, .int .i64 q3] 39)).alloc (.cells #[.slice (some ⟨bn, on, none⟩) nn nc, .slice (some ⟨bm, om, none⟩) nn mc, .bool late] 70)) y)).cell (p := ⟨bn, on + k, none⟩) hbn).trans hcnk
   have fm1 := ((by repeat (first | exact Below.refl _ _ | assumption | refine bExt ?_ _ | refine bAlloc ?_ _ | refine bDrewN ?_ _ | refine bDrew ?_ | refine bSet ?_ (by first | exact Nat.le_refl _ | omega | (simp; done) | (simp; omega)) _) : Below w.heap.size w (ext ((w.alloc (.cells #[.slice (some ⟨b, off, none⟩) n c, .slice B m d, .int .i64 q0, .int .i64 q1, .int .i64 q2, .int .i64 q3] 39)).alloc (.cells #[.slice (some ⟨bn, on, none⟩) nn nc, .slice (some ⟨bm, om, none⟩) nn mc, .bool late] 70)) y)).cell (p := ⟨bm, om + k, none⟩) hbm).trans hcmk
   go_wp2
   go_region_held3 (fun w' => w'.cell? ⟨w.heap.size, 0, none⟩ = some (.slice (some ⟨b, off, none⟩) n c) ∧ w'.cell? ⟨w.heap.size, 1, none⟩ = some (.slice B m d) ∧ w'.cell? ⟨w.heap.size, 2, none⟩ = some (.int .i64 q0) ∧ w'.cell? ⟨w.heap.size, 3, none⟩ = some (.int .i64 q1) ∧ w'.cell? ⟨w.heap.size, 4, none⟩ = some (.int .i64 q2) ∧ w'.cell? ⟨w.heap.size, 5, none⟩ = some (.int .i64 q3) ∧ w'.cell? ⟨w.heap.size + 1, 0, none⟩ = some (.slice (some ⟨bn, on, none⟩) nn nc) ∧ w'.cell? ⟨w.heap.size + 1, 1, none⟩ = some (.slice (some ⟨bm, om, none⟩) nn mc) ∧ w'.cell? ⟨w.heap.size + 1, 2, none⟩ = some (.bool late) ∧ w'.cell? ⟨bm, om + k, none⟩ = some (.int .i64 mk) ∧ w'.cell? ⟨b, off + i * 4, none⟩ = some (.string e0) ∧ w'.cell? ⟨b, off + i * 4 + 1, none⟩ = some (.int .i64 e1) ∧ w'.cell? ⟨b, off + i * 4 + 2, none⟩ = some (.int .i64 e2) ∧ w'.cell? ⟨b, off + i * 4 + 3, none⟩ = some (.int .i64 e3)) (exact hS _ bl) (first | (go_at_call 273; ((with_reducible refine (cf _ bl).mono ?_); rintro e w' ⟨rfl, y3, rfl⟩)) | (go_at_call 274; ((with_reducible refine (cw _).mono ?_); rintro e w' ⟨rfl, y4, rfl⟩)) | (refine step_app_int ((w.alloc (.cells #[.slice (some ⟨b, off, none⟩) n c, .slice B m d, .int .i64 q0, .int .i64 q1, .int .i64 q2, .int .i64 q3] 39)).alloc (.cells #[.slice (some ⟨bn, on, none⟩) nn nc, .slice (some ⟨bm, om, none⟩) nn mc, .bool late] 70)) rfl _ _ rfl D _ dc out rfl ho ?_ ?_ _ 1 1 [v] rfl (RdI.one_ ?_ ?_) (Below.refl _ _) (by omega) ?_; exact bl; exact bl; (focus (simp [go_sem])); (focus (simp [go_sem])); intro D' dc' z ho' hg hd))
   go_wp2
   rw [← HS.out] at ho'
   go_roundw
   case rel => exact ⟨k + 1, D', dc', _, by omega, by go_num, rfl, rfl, ho'⟩
   case measure => simp [intOf]; omega
  ·
   obtain rfl : k = nn := by omega
   go_wp2
   go_ret
   exact RetI.mk_ ho (by simp [go_sem]; omega) bl
theorem fullBase_any (w : World) (A B : Option Addr) (n m c d : Nat) (els : List El) (q0 q1 q2 q3 : Int) (NA MA : Option Addr) (nn nc mn mc : Nat) (it : It) (ha : RdEl w A n els) (hn : n ≤ 1099511627776) (hC : CodeG els q0 q1 q2) (hN : RdT w NA nn it.1) (hM : RdI w MA mn it.2.1) (hI : ItG els it) :
  Calls Tryz.prog 198 #[.agg #[.slice A n c, .slice B m d, .int .i64 q0, .int .i64 q1, .int .i64 q2, .int .i64 q3], .agg #[.slice NA nn nc, .slice MA mn mc, .bool it.2.2]] w fun e w' => e = .returned (.int .i64 (fullV els q1 q2 it)) ∧ ∃ y, w' = ext w y := by
 have Hn := Lib.hid hN.len
 have hbd := wTo_bd hC hI
 have hmul := full_mul hC hI
 rw [Hn.out] at hmul
 have hI1 := hI.1.2
 rw [Hn.out] at hI1
 have HV : Hid (fullV els q1 q2 it = if it.2.2 then roundV (wSum els q2 it nn * (100 + q1)) 100 else wSum els q2 it nn) := by unfold Hid fullV; rw [Hn.out]
 have cw := fun W (h : Below w.heap.size w W) => worths_any W A B n m c d els q0 q1 q2 q3 NA MA nn nc mn mc it (ha.below h) hn hC (hN.below h) (hM.below h) hI
 have HB : Hid (∀ x ∈ wTo els q2 it nn, -100000 ≤ x ∧ x ≤ 100000) := fun x hx => by have := hbd nn (by rw [Hn.out]; exact Nat.le_refl _) x hx; omega
 have HE := Lib.hid (wSum_to els q2 it nn)
 have hln := wTo_len els q2 it nn
 obtain ⟨hq1, hq2⟩ := hC.2.2
 obtain ⟨late, hlate⟩ : ∃ l, it.2.2 = l := ⟨_, rfl⟩
 rw [hlate] at HV cw ⊢
 clear hlate hbd
 generalize hl : wTo els q2 it nn = l at *
 clear hl
 generalize wSum els q2 it nn = s at *
 cases late
 ·
  go_enter Tryz.func198, Tryz.ntmps198
  go_wp2_with (first | (go_at_call 246; ((with_reducible refine (cw _ bl).mono ?_); rintro e w' ⟨A1, n1, c1, x1, rfl, rfl, o1⟩; (obtain rfl : n1 = nn := o1.len.symm.trans hln))) | (go_at_call 182; ((with_reducible refine (sumInts_any _ _ _ _ _ o1.rd (by omega) HB.out).mono ?_); rintro e w' ⟨rfl, rfl⟩)))
  go_ret
  exact ⟨ret_int (by rw [HV.out, HE.out]; rfl), ext_ex bl⟩
 ·
  have e1 : IntKind.i64.wrap (s * (100 + q1)) = s * (100 + q1) := IntWalk.i64_in _ (by omega)
  have cr := fun W => roundDiv_any (s * (100 + q1)) 100 W (by omega) (by omega) (by omega) (by omega)
  rw [← HE.out] at cr e1
  go_enter Tryz.func198, Tryz.ntmps198
  go_wp2_with (first | (go_at_call 246; ((with_reducible refine (cw _ bl).mono ?_); rintro e w' ⟨A1, n1, c1, x1, rfl, rfl, o1⟩; (obtain rfl : n1 = nn := o1.len.symm.trans hln))) | (go_at_call 182; ((with_reducible refine (sumInts_any _ _ _ _ _ o1.rd (by omega) HB.out).mono ?_); rintro e w' ⟨rfl, rfl⟩)) | (go_at_call 200; ((with_reducible refine (cr _).mono ?_); rintro e w' ⟨rfl, rfl⟩)))
  go_ret
  exact ⟨ret_int (by rw [HV.out, ← HE.out]; rfl), ext_ex bl⟩
end Go.Proofs.YtmeaklaagglmeaaGreatDoor
