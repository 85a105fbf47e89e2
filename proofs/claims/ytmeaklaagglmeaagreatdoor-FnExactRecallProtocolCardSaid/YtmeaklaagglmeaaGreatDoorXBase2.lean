/- Contracts: rounding, the worths of an item's names, an item's full base. Conditions: lengths below 2^40; a valid code, a known item. -/
import Derived.Test.YtmeaklaagglmeaaGreatDoorXBaseQ
import Derived.Test.YtmeaklaagglmeaaGreatDoorXBase1
import Derived.Test.YtmeaklaagglmeaaGreatDoorXStats
import Derived.Deep.RegionHeld3
set_option linter.unusedVariables false
set_option linter.unusedSimpArgs false
set_option maxRecDepth 100000
namespace Go.Proofs.YtmeaklaagglmeaaGreatDoor
open Go.RowKit
theorem poDown_any (a b : Int) (w : World) (h1 : -1099511627776 ≤ a) (h2 : a ≤ 1099511627776) (hb : 0 < b) (hb2 : b ≤ 1099511627776) :
  Calls Tryz.prog 266 #[.int .i64 a, .int .i64 b] w fun e w' => e = .returned (.int .i64 (a / b)) ∧ w = w' := by
 have e := down_eq a b hb
 have bd := down_bd hb h1 h2 (by omega)
 have b0 : ¬ b = 0 := by omega
 have b1 : ¬ b = -1 := by omega
 generalize a / b = v at *
 by_cases h : a.tmod b < 0
 ·
  rw [if_pos h] at e
  have e1 : IntKind.i64.wrap (a.tdiv b) = v + 1 := by rw [show a.tdiv b = v + 1 by omega]; exact IntWalk.i64_in _ (by omega)
  have e2 : IntKind.i64.wrap (a.tmod b) = a.tmod b := IntWalk.i64_in _ (by have := Int.tmod_lt_of_pos a hb; have := Int.lt_tmod_of_pos a hb; omega)
  have HE := Lib.hid e
  clear e
  go_enter Tryz.func266, Tryz.ntmps266
  go_wp2
  go_ret
  exact ⟨ret_int (by omega), rfl⟩
 ·
  rw [if_neg h] at e
  have e1 : IntKind.i64.wrap (a.tdiv b) = v := by rw [show a.tdiv b = v by omega]; exact IntWalk.i64_in _ (by omega)
  have e2 : IntKind.i64.wrap (a.tmod b) = a.tmod b := IntWalk.i64_in _ (by have := Int.tmod_lt_of_pos a hb; have := Int.lt_tmod_of_pos a hb; omega)
  clear e
  go_enter Tryz.func266, Tryz.ntmps266
  go_wp2
  go_ret
  exact ⟨rfl, rfl⟩
theorem floorDiv_any (a b : Int) (w : World) (h1 : -1099511627776 ≤ a) (h2 : a ≤ 1099511627776) (hb : 0 < b) (hb2 : b ≤ 1099511627776) :
  Calls Tryz.prog 249 #[.int .i64 a, .int .i64 b] w fun e w' => e = .returned (.int .i64 (a / b)) ∧ w = w' := by
 have e := down_eq a b hb
 have bd := down_bd hb h1 h2 (by omega)
 have b0 : ¬ b = 0 := by omega
 have b1 : ¬ b = -1 := by omega
 generalize a / b = v at *
 by_cases h : a.tmod b < 0
 ·
  rw [if_pos h] at e
  have e1 : IntKind.i64.wrap (a.tdiv b) = v + 1 := by rw [show a.tdiv b = v + 1 by omega]; exact IntWalk.i64_in _ (by omega)
  have e2 : IntKind.i64.wrap (a.tmod b) = a.tmod b := IntWalk.i64_in _ (by have := Int.tmod_lt_of_pos a hb; have := Int.lt_tmod_of_pos a hb; omega)
  have HE := Lib.hid e
  clear e
  go_enter Tryz.func249, Tryz.ntmps249
  go_wp2
  go_ret
  exact ⟨ret_int (by omega), rfl⟩
 ·
  rw [if_neg h] at e
  have e1 : IntKind.i64.wrap (a.tdiv b) = v := by rw [show a.tdiv b = v by omega]; exact IntWalk.i64_in _ (by omega)
  have e2 : IntKind.i64.wrap (a.tmod b) = a.tmod b := IntWalk.i64_in _ (by have := Int.tmod_lt_of_pos a hb; have := Int.lt_tmod_of_pos a hb; omega)
  clear e
  go_enter Tryz.func249, Tryz.ntmps249
  go_wp2
  go_ret
  exact ⟨rfl, rfl⟩
theorem poRound_any (a b : Int) (w : World) (h1 : -1073741824 ≤ a) (h2 : a ≤ 1073741824) (hb : 0 < b) (hb2 : b ≤ 1073741824) :
  Calls Tryz.prog 235 #[.int .i64 a, .int .i64 b] w fun e w' => e = .returned (.int .i64 (roundV a b)) ∧ w = w' := by
 have HR : Hid (roundV a b = (2 * a + b) / (2 * b)) := rfl
 go_enter Tryz.func235, Tryz.ntmps235
 go_wp2_with ((go_at_call 266; ((with_reducible refine (poDown_any _ _ _ (by omega) (by omega) (by omega) (by omega)).mono ?_); rintro e w' ⟨rfl, rfl⟩)))
 go_ret
 exact ⟨ret_int (by rw [HR.out]), rfl⟩
theorem roundDiv_any (a b : Int) (w : World) (h1 : -1073741824 ≤ a) (h2 : a ≤ 1073741824) (hb : 0 < b) (hb2 : b ≤ 1073741824) :
  Calls Tryz.prog 200 #[.int .i64 a, .int .i64 b] w fun e w' => e = .returned (.int .i64 (roundV a b)) ∧ w = w' := by
 have HR : Hid (roundV a b = (2 * a + b) / (2 * b)) := rfl
 go_enter Tryz.func200, Tryz.ntmps200
 go_wp2_with ((go_at_call 249; ((with_reducible refine (floorDiv_any _ _ _ (by omega) (by omega) (by omega) (by omega)).mono ?_); rintro e w' ⟨rfl, rfl⟩)))
 go_ret
 exact ⟨ret_int (by rw [HR.out]), rfl⟩
set_option maxHeartbeats 2000000 in
theorem bsFull_any (w : World) (A B : Option Addr) (n m c d : Nat) (els : List El) (q0 q1 q2 q3 : Int) (NA MA : Option Addr) (nn nc mn mc : Nat) (it : It) (ha : RdEl w A n els) (hn : n ≤ 1099511627776) (hC : CodeG els q0 q1 q2) (hN : RdT w NA nn it.1) (hM : RdI w MA mn it.2.1) (hI : ItG els it) :
  Calls Tryz.prog 206 #[.agg #[.slice A n c, .slice B m d, .int .i64 q0, .int .i64 q1, .int .i64 q2, .int .i64 q3], .agg #[.slice NA nn nc, .slice MA mn mc, .bool it.2.2]] w fun e w' => e = .returned (.int .i64 (fullV els q1 q2 it)) ∧ ∃ y, w' = ext w y := by
 have Hn := Lib.hid hN.len
 have Hm := Lib.hid hM.len
 have hI1 := hI.1.2
 have hIm := hI.2.1
 rw [Hn.out] at hI1 hIm
 rw [Hm.out] at hIm
 obtain rfl := hIm.symm
 have hsum := fun k => wSum_bd hC hI k
 rw [Hn.out] at hsum
 have hmul := full_mul hC hI
 rw [Hn.out] at hmul
 have HV : Hid (fullV els q1 q2 it = if it.2.2 then roundV (wSum els q2 it nn * (100 + q1)) 100 else wSum els q2 it nn) := by unfold Hid fullV; rw [Hn.out]
 obtain ⟨hq1, hq2⟩ := hC.2.2
 have cw := fun W s mark (h : Below w.heap.size w W) hf => bsWorth_any W A B n m c d els q0 q1 q2 q3 s mark (ha.below h) hn hf hC.1 hq2.1 hq2.2
 have hkn := hI.2.2
 rw [Hn.out] at hkn
 obtain ⟨late, hlate⟩ : ∃ l, it.2.2 = l := ⟨_, rfl⟩
 rw [hlate] at HV ⊢
 clear hlate hC hI
 go_enter Tryz.func206, Tryz.ntmps206
 go_wp2
 go_loopw [5, 6, 7, 11] (fun t _ _ i wr => ∃ (k : Nat) (y : World), k ≤ nn ∧ i = .int .i64 k ∧ t = .int .i64 (wSum els q2 it k) ∧ wr = ext ((w.alloc (.cells #[.slice A n c, .slice B m d, .int .i64 q0, .int .i64 q1, .int .i64 q2, .int .i64 q3] 39)).alloc (.cells #[.slice NA nn nc, .slice MA nn mc, .bool late] 70)) y) (fun _ _ _ i _ => nn - (intOf i).toNat)
 case atStart => exact ⟨0, _, by omega, rfl, by simp [wSum, wTo], ext_self _⟩
 case round =>
  obtain ⟨k, y, hk, rfl, rfl, rfl⟩ := hrel
  have hs1 := hsum k hk
  by_cases hlt : k < nn
  ·
   obtain ⟨bn, on, rfl, hbn, hcn⟩ := hN.open_ (by omega)
   obtain ⟨bm, om, rfl, hbm, hcm⟩ := hM.open_ (by omega)
   have hcnk : w.cell? ⟨bn, on + k, none⟩ = some (.string (nmAt it k)) := hcn k hlt
   have hcmk : w.cell? ⟨bm, om + k, none⟩ = some (.int .i64 (mkAt it k)) := by have := hcm k (by omega); rwa [List.getD_eq_getElem?_getD] at this
   have hf : 0 ≤ findE els (nmAt it k) := hkn k hlt
   have hs2 := hsum (k + 1) (by omega)
   have HS := Lib.hid (wSum_succ els q2 it k)
   rw [HS.out] at hs2
   have cs := fun W (h : Below w.heap.size w W) => cw W (nmAt it k) (mkAt it k) h hf
   clear hcn hcm cw hf hkn hsum
   generalize wSum els q2 it k = s at *
   generalize wAt els q2 (nmAt it k) (mkAt it k) = v at *
   generalize nmAt it k = nm at *
   generalize mkAt it k = mk at *
   have hR : ((w.alloc (.cells #[.slice A n c, .slice B m d, .int .i64 q0, .int .i64 q1, .int .i64 q2, .int .i64 q3] 39)).alloc (.cells #[.slice (some ⟨bn, on, none⟩) nn nc, .slice (some ⟨bm, om, none⟩) nn mc, .bool late] 70)).cell? ⟨w.heap.size, 0, none⟩ = some (.slice A n c) ∧ ((w.alloc (.cells #[.slice A n c, .slice B m d, .int .i64 q0, .int .i64 q1, .int .i64 q2, .int .i64 q3] 39)).alloc (.cells #[.slice (some ⟨bn, on, none⟩) nn nc, .slice (some ⟨bm, om, none⟩) nn mc, .bool late] 70)).cell? ⟨w.heap.size, 1, none⟩ = some (.slice B m d) ∧ ((w.alloc (.cells #[.slice A n c, .slice B m d, .int .i64 q0, .int .i64 q1, .int .i64 q2, .int .i64 q3] 39)).alloc (.cells #[.slice (some ⟨bn, on, none⟩) nn nc, .slice (some ⟨bm, om, none⟩) nn mc, .bool late] 70)).cell? ⟨w.heap.size, 2, none⟩ = some (.int .i64 q0) ∧ ((w.alloc (.cells #[.slice A n c, .slice B m d, .int .i64 q0, .int .i64 q1, .int .i64 q2, .int .i64 q3] 39)).alloc (.cells #[.slice (some ⟨bn, on, none⟩) nn nc, .slice (some ⟨bm, om, none⟩) nn mc, .bool late] 70)).cell? ⟨w.heap.size, 3, none⟩ = some (.int .i64 q1) ∧ ((w.alloc (.cells #[.slice A n c, .slice B m d, .int .i64 q0, .int .i64 q1, .int .i64 q2, .int .i64 q3] 39)).alloc (.cells #[.slice (some ⟨bn, on, none⟩) nn nc, .slice (some ⟨bm, om, none⟩) nn mc, .bool late] 70)).cell? ⟨w.heap.size, 4, none⟩ = some (.int .i64 q2) ∧ ((w.alloc (.cells #[.slice A n c, .slice B m d, .int .i64 q0, .int .i64 q1, .int .i64 q2, .int .i64 q3] 39)).alloc (.cells #[.slice (some ⟨bn, on, none⟩) nn nc, .slice (some ⟨bm, om, none⟩) nn mc, .bool late] 70)).cell? ⟨w.heap.size, 5, none⟩ = some (.int .i64 q3) ∧ ((w.alloc (.cells #[.slice A n c, .slice B m d, .int .i64 q0, .int .i64 q1, .int .i64 q2, .int .i64 q3] 39)).alloc (.cells #[.slice (some ⟨bn, on, none⟩) nn nc, .slice (some ⟨bm, om, none⟩) nn mc, .bool late] 70)).cell? ⟨w.heap.size + 1, 0, none⟩ = some (.slice (some ⟨bn, on, none⟩) nn nc) ∧ ((w.alloc (.cells #[.slice A n c, .slice B m d, .int .i64 q0, .int .i64 q1, .int .i64 q2, .int .i64 q3] 39)).alloc (.cells #[.slice (some ⟨bn, on, none⟩) nn nc, .slice (some ⟨bm, om, none⟩) nn mc, .bool late] 70)).cell? ⟨w.heap.size + 1, 1, none⟩ = some (.slice (some ⟨bm, om, none⟩) nn mc) ∧ ((w.alloc (.cells #[.slice A n c, .slice B m d, .int .i64 q0, .int .i64 q1, .int .i64 q2, .int .i64 q3] 39)).alloc (.cells #[.slice (some ⟨bn, on, none⟩) nn nc, .slice (some ⟨bm, om, none⟩) nn mc, .bool late] 70)).cell? ⟨w.heap.size + 1, 2, none⟩ = some (.bool late) ∧ ((w.alloc (.cells #[.slice A n c, .slice B m d, .int .i64 q0, .int .i64 q1, .int .i64 q2, .int .i64 q3] 39)).alloc (.cells #[.slice (some ⟨bn, on, none⟩) nn nc, .slice (some ⟨bm, om, none⟩) nn mc, .bool late] 70)).cell? ⟨bm, om + k, none⟩ = some (.int .i64 mk) := by refine ⟨?_, ?_, ?_, ?_, ?_, ?_, ?_, ?_, ?_, ?_⟩ <;> first | assumption | simp [*, go_sem]
   have hS := fun (W : World) (h : Below ((w.alloc (.cells #[.slice A n c, .slice B m d, .int .i64 q0, .int .i64 q1, .int .i64 q2, .int .i64 q3] 39)).alloc (.cells #[.slice (some ⟨bn, on, none⟩) nn nc, .slice (some ⟨bm, om, none⟩) nn mc, .bool late] 70)).heap.size ((w.alloc (.cells #[.slice A n c, .slice B m d, .int .i64 q0, .int .i64 q1, .int .i64 q2, .int .i64 q3] 39)).alloc (.cells #[.slice (some ⟨bn, on, none⟩) nn nc, .slice (some ⟨bm, om, none⟩) nn mc, .bool late] 70)) W) => (⟨(h.cell (p := ⟨w.heap.size, 0, none⟩) (by first | assumption | (simp [go_sem]; done) | (simp [go_sem]; omega))).trans hR.1, (h.cell (p := ⟨w.heap.size, 1, none⟩) (by first | assumption | (simp [go_sem]; done) | (simp [go_sem]; omega))).trans hR.2.1, (h.cell (p := ⟨w.heap.size, 2, none⟩) (by first | assumption | (simp [go_sem]; done) | (simp [go_sem]; omega))).trans hR.2.2.1, (h.cell (p := ⟨w.heap.size, 3, none⟩) (by first | assumption | (simp [go_sem]; done) | (simp [go_sem]; omega))).trans hR.2.2.2.1, (h.cell (p := ⟨w.heap.size, 4, none⟩) (by first | assumption | (simp [go_sem]; done) | (simp [go_sem]; omega))).trans hR.2.2.2.2.1, (h.cell (p := ⟨w.heap.size, 5, none⟩) (by first | assumption | (simp [go_sem]; done) | (simp [go_sem]; omega))).trans hR.2.2.2.2.2.1, (h.cell (p := ⟨w.heap.size + 1, 0, none⟩) (by first | assumption | (simp [go_sem]; done) | (simp [go_sem]; omega))).trans hR.2.2.2.2.2.2.1, (h.cell (p := ⟨w.heap.size + 1, 1, none⟩) (by first | assumption | (simp [go_sem]; done) | (simp [go_sem]; omega))).trans hR.2.2.2.2.2.2.2.1, (h.cell (p := ⟨w.heap.size + 1, 2, none⟩) (by first | assumption | (simp [go_sem]; done) | (simp [go_sem]; omega))).trans hR.2.2.2.2.2.2.2.2.1, (h.cell (p := ⟨bm, om + k, none⟩) (by first | assumption | (simp [go_sem]; done) | (simp [go_sem]; omega))).trans hR.2.2.2.2.2.2.2.2.2⟩ : W.cell? ⟨w.heap.size, 0, none⟩ = some (.slice A n c) ∧ W.cell? ⟨w.heap.size, 1, none⟩ = some (.slice B m d) ∧ W.cell? ⟨w.heap.size, 2, none⟩ = some (.int .i64 q0) ∧ W.cell? ⟨w.heap.size, 3, none⟩ = some (.int .i64 q1) ∧ W.cell? ⟨w.heap.size, 4, none⟩ = some (.int .i64 q2) ∧ W.cell? ⟨w.heap.size, 5, none⟩ = some (.int .i64 q3) ∧ W.cell? ⟨w.heap.size + 1, 0, none⟩ = some (.slice (some ⟨bn, on, none⟩) nn nc) ∧ W.cell? ⟨w.heap.size + 1, 1, none⟩ = some (.slice (some ⟨bm, om, none⟩) nn mc) ∧ W.cell? ⟨w.heap.size + 1, 2, none⟩ = some (.bool late) ∧ W.cell? ⟨bm, om + k, none⟩ = some (.int .i64 mk))
   clear hR
   have fn1 := ((by repeat (first | exact Below.refl _ _ | assumption | refine bExt ?_ _ | refine bAlloc ?_ _ | refine bDrewN ?_ _ | refine bDrew ?_ | refine bSet ?_ (by first | exact Nat.le_refl _ | omega | (simp; done) | (simp; omega)) _) : Below w.heap.size w (ext ((w.alloc (.cells #[.slice A n c, .slice B m d, .int .i64 q0, .int .i64 q1, .int .i64 q2, .int .i64 q3] 39)).alloc (.cells #[.slice (some ⟨bn, on, none⟩) nn nc, .slice (some ⟨bm, om, none⟩) nn mc, .bool late] 70)) y)).cell (p := ⟨bn, on + k, none⟩) hbn).trans hcnk
   have fm1 := ((by repeat (first | exact Below.refl _ _ | assumption | refine bExt ?_ _ | refine bAlloc ?_ _ | refine bDrewN ?_ _ | refine bDrew ?_ | refine bSet ?_ (by first | exact Nat.le_refl _ | omega | (simp; done) | (simp; omega)) _) : Below w.heap.size w (ext ((w.alloc (.cells #[.slice A n c, .slice B m d, .int .i64 q0, .int .i64 q1, .int .i64 q2, .int .i64 q3] 39)).alloc (.cells #[.slice (some ⟨bn, on, none⟩) nn nc, .slice (some ⟨bm, om, none⟩) nn mc, .bool late] 70)) y)).cell (p := ⟨bm, om + k, none⟩) hbm).trans hcmk
   have e0 : IntKind.i64.wrap (s + v) = s + v := IntWalk.i64_in _ (by omega)
   go_wp2
   go_region_held3 (fun w' => w'.cell? ⟨w.heap.size, 0, none⟩ = some (.slice A n c) ∧ w'.cell? ⟨w.heap.size, 1, none⟩ = some (.slice B m d) ∧ w'.cell? ⟨w.heap.size, 2, none⟩ = some (.int .i64 q0) ∧ w'.cell? ⟨w.heap.size, 3, none⟩ = some (.int .i64 q1) ∧ w'.cell? ⟨w.heap.size, 4, none⟩ = some (.int .i64 q2) ∧ w'.cell? ⟨w.heap.size, 5, none⟩ = some (.int .i64 q3) ∧ w'.cell? ⟨w.heap.size + 1, 0, none⟩ = some (.slice (some ⟨bn, on, none⟩) nn nc) ∧ w'.cell? ⟨w.heap.size + 1, 1, none⟩ = some (.slice (some ⟨bm, om, none⟩) nn mc) ∧ w'.cell? ⟨w.heap.size + 1, 2, none⟩ = some (.bool late) ∧ w'.cell? ⟨bm, om + k, none⟩ = some (.int .i64 mk)) (exact hS _ bl) (first | (go_at_call 253; ((with_reducible refine (cs _ bl).mono ?_); rintro e w' ⟨rfl, y3, rfl⟩)))
   go_wp2
   go_roundw
   case rel => exact ⟨k + 1, _, by omega, by go_num, by rw [HS.out], (ext_ex bl).choose_spec⟩
   case measure => simp [intOf]; omega
  ·
   obtain rfl : k = nn := by omega
   clear hsum cw hkn
   generalize wSum els q2 it k = s at *
   cases late
   ·
    go_wp2
    go_ret
    exact ⟨ret_int (by rw [HV.out]; rfl), ext_ex bl⟩
   ·
    have e1 : IntKind.i64.wrap (s * (100 + q1)) = s * (100 + q1) := IntWalk.i64_in _ (by omega)
    have cr := fun W => poRound_any (s * (100 + q1)) 100 W (by omega) (by omega) (by omega) (by omega)
    go_wp2_with ((go_at_call 235; ((with_reducible refine (cr _).mono ?_); rintro e w' ⟨rfl, rfl⟩)))
    go_ret
    exact ⟨ret_int (by rw [HV.out]; rfl), ext_ex bl⟩
end Go.Proofs.YtmeaklaagglmeaaGreatDoor
