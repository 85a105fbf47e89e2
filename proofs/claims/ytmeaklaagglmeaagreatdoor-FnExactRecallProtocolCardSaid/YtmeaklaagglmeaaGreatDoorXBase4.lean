/- Contracts: how often an item's first jump was skated before it, an item's base. Conditions: lengths below 2^40; a valid code, known items. -/
import Derived.Test.YtmeaklaagglmeaaGreatDoorXBase3
import Derived.BigQuiet
set_option linter.unusedVariables false
set_option linter.unusedSimpArgs false
set_option maxRecDepth 100000
namespace Go.Proofs.YtmeaklaagglmeaaGreatDoor
open Go.RowKit
def ItsG (els : List El) (its : List It) : Prop := ∀ j, j < its.length → ItG els (its[j]?.getD zIt)
theorem repHit_no {its : List It} {k j : Nat} (h : ((nmAt (its[j]?.getD zIt) 0).toList == (nmAt (its[k]?.getD zIt) 0).toList) = false) : repHit its k j = false := by rw [repHit, h]; rfl
theorem repHit_3 {its : List It} {k j : Nat} (h : mkAt (its[j]?.getD zIt) 0 = 3) : repHit its k j = false := by rw [repHit, h]; simp
theorem repHit_yes {its : List It} {k j : Nat} (h : ((nmAt (its[j]?.getD zIt) 0).toList == (nmAt (its[k]?.getD zIt) 0).toList) = true) (h2 : ¬ mkAt (its[j]?.getD zIt) 0 = 3) : repHit its k j = true := by rw [repHit, h]; simp [h2]
set_option maxHeartbeats 1000000 in
theorem bsRepeats_any (w : World) (A : Option Addr) (n c : Nat) (els : List El) (its : List It) (k : Nat) (ha : RdIt w A n its) (hk : k < n) (hn : n ≤ 1099511627776) (hc : n ≤ c) (hI : ItsG els its) :
  Calls Tryz.prog 207 #[.slice A n c, .int .i64 k] w fun e w' => e = .returned (.int .i64 (repTo its k k)) ∧ ∃ y, w' = ext w y := by
 have Hl := Lib.hid ha.len
 go_enter Tryz.func207, Tryz.ntmps207
 go_wp2
 go_loopw [5, 7, 12] (fun t _ i wr => ∃ (j : Nat) (y : World), j ≤ k ∧ i = .int .i64 j ∧ t = .int .i64 (repTo its k j) ∧ wr = ext w y) (fun _ _ i _ => k - (intOf i).toNat)
 case atStart => exact ⟨0, _, by omega, rfl, rfl, ext_self _⟩
 case round =>
  obtain ⟨j, y, hj, rfl, rfl, rfl⟩ := hrel
  by_cases hlt : j < k
  ·
   have hjn : j < n := by omega
   obtain ⟨b, off, NA, nn, nc, MA, mn, mc, rfl, hb0, hc0, hc1, hc2, hN, hM, _, _⟩ := ha.at_ j hjn
   obtain ⟨b', off', NK, nk, ck, MK, mk, dk, e, hbk, hk0, hk1, hk2, hNk, hMk, _, _⟩ := ha.at_ k hk
   obtain ⟨rfl, rfl⟩ : b = b' ∧ off = off' := by simpa using e
   clear e
   have hj1 := hI j (by rw [Hl.out]; exact hjn)
   have hk1' := hI k (by rw [Hl.out]; exact hk)
   have HY := @repHit_yes its k j
   have HN := @repHit_no its k j
   have H3 := @repHit_3 its k j
   have HA := @repTo_yes its k j
   have HB := @repTo_no its k j
   have hbd := repTo_bd its k j
   have nn1 : 1 ≤ nn := by rw [← hN.len]; exact hj1.1.1
   have mn1 : 1 ≤ mn := by rw [← hM.len, hj1.2.1]; exact hj1.1.1
   have nk1 : 1 ≤ nk := by rw [← hNk.len]; exact hk1'.1.1
   obtain ⟨bn, on, rfl, hbn, hcn⟩ := hN.open_ (by omega)
   obtain ⟨bm, om, rfl, hbm, hcm⟩ := hM.open_ (by omega)
   obtain ⟨bo, oo, rfl, hbo, hco⟩ := hNk.open_ (by omega)
   have c0 : w.cell? ⟨bn, on, none⟩ = some (.string (nmAt (its[j]?.getD zIt) 0)) := hcn 0 nn1
   have c1 : w.cell? ⟨bm, om, none⟩ = some (.int .i64 (mkAt (its[j]?.getD zIt) 0)) := by have := hcm 0 mn1; rwa [List.getD_eq_getElem?_getD] at this
   have c2 : w.cell? ⟨bo, oo, none⟩ = some (.string (nmAt (its[k]?.getD zIt) 0)) := hco 0 nk1
   clear hcn hcm hco hj1 hk1' hN hM hNk hMk
   generalize nmAt (its[j]?.getD zIt) 0 = s0 at *
   generalize mkAt (its[j]?.getD zIt) 0 = m0 at *
   generalize nmAt (its[k]?.getD zIt) 0 = s1 at *
   have HY := Lib.hid HY
   have HN := Lib.hid HN
   have H3 := Lib.hid H3
   have HA := Lib.hid HA
   have HB := Lib.hid HB
   have kc : k ≤ c := by omega
   cases he : (s0.toList == s1.toList)
   ·
    have HR := Lib.hid (HB.out (HN.out he))
    generalize repTo its k j = t at *
    go_wp2
    go_quiet (fail)
    go_wp2
    go_roundw
    case rel => exact ⟨j + 1, _, by omega, by go_num, by rw [HR.out], (ext_ex bl).choose_spec⟩
    case measure => simp [intOf]; omega
   ·
    by_cases h3 : m0 = 3
    ·
     have HR := Lib.hid (HB.out (H3.out h3))
     subst h3
     generalize repTo its k j = t at *
     go_wp2
     go_quiet (fail)
     go_wp2
     go_roundw
     case rel => exact ⟨j + 1, _, by omega, by go_num, by rw [HR.out], (ext_ex bl).choose_spec⟩
     case measure => simp [intOf]; omega
    ·
     have HR := Lib.hid (HA.out (HY.out he h3))
     have b3 : (m0 == 3) = false := by simp [h3]
     generalize repTo its k j = t at *
     have e0 : IntKind.i64.wrap (t + 1) = t + 1 := IntWalk.i64_in _ (by omega)
     go_wp2
     go_quiet (fail)
     go_wp2
     go_roundw
     case rel => exact ⟨j + 1, _, by omega, by go_num, by rw [HR.out], (ext_ex bl).choose_spec⟩
     case measure => simp [intOf]; omega
  ·
   obtain rfl : j = k := by omega
   go_wp2
   go_ret
   exact ⟨ret_int rfl, ext_ex bl⟩
set_option maxHeartbeats 1000000 in
theorem repeatsOf_any (w : World) (A : Option Addr) (n c : Nat) (els : List El) (its : List It) (k : Nat) (ha : RdIt w A n its) (hk : k < n) (hn : n ≤ 1099511627776) (hc : n ≤ c) (hI : ItsG els its) :
  Calls Tryz.prog 197 #[.slice A n c, .int .i64 k] w fun e w' => e = .returned (.int .i64 (repTo its k k)) ∧ ∃ y, w' = ext w y := by
 have Hl := Lib.hid ha.len
 go_enter Tryz.func197, Tryz.ntmps197
 go_wp2
 go_loopw [5, 7, 12] (fun t _ i wr => ∃ (j : Nat) (y : World), j ≤ k ∧ i = .int .i64 j ∧ t = .int .i64 (repTo its k j) ∧ wr = ext w y) (fun _ _ i _ => k - (intOf i).toNat)
 case atStart => exact ⟨0, _, by omega, rfl, rfl, ext_self _⟩
 case round =>
  obtain ⟨j, y, hj, rfl, rfl, rfl⟩ := hrel
  by_cases hlt : j < k
  ·
   have hjn : j < n := by omega
   obtain ⟨b, off, NA, nn, nc, MA, mn, mc, rfl, hb0, hc0, hc1, hc2, hN, hM, _, _⟩ := ha.at_ j hjn
   obtain ⟨b', off', NK, nk, ck, MK, mk, dk, e, hbk, hk0, hk1, hk2, hNk, hMk, _, _⟩ := ha.at_ k hk
   obtain ⟨rfl, rfl⟩ : b = b' ∧ off = off' := by simpa using e
   clear e
   have hj1 := hI j (by rw [Hl.out]; exact hjn)
   have hk1' := hI k (by rw [Hl.out]; exact hk)
   have HY := @repHit_yes its k j
   have HN := @repHit_no its k j
   have H3 := @repHit_3 its k j
   have HA := @repTo_yes its k j
   have HB := @repTo_no its k j
   have hbd := repTo_bd its k j
   have nn1 : 1 ≤ nn := by rw [← hN.len]; exact hj1.1.1
   have mn1 : 1 ≤ mn := by rw [← hM.len, hj1.2.1]; exact hj1.1.1
   have nk1 : 1 ≤ nk := by rw [← hNk.len]; exact hk1'.1.1
   obtain ⟨bn, on, rfl, hbn, hcn⟩ := hN.open_ (by omega)
   obtain ⟨bm, om, rfl, hbm, hcm⟩ := hM.open_ (by omega)
   obtain ⟨bo, oo, rfl, hbo, hco⟩ := hNk.open_ (by omega)
   have c0 : w.cell? ⟨bn, on, none⟩ = some (.string (nmAt (its[j]?.getD zIt) 0)) := hcn 0 nn1
   have c1 : w.cell? ⟨bm, om, none⟩ = some (.int .i64 (mkAt (its[j]?.getD zIt) 0)) := by have := hcm 0 mn1; rwa [List.getD_eq_getElem?_getD] at this
   have c2 : w.cell? ⟨bo, oo, none⟩ = some (.string (nmAt (its[k]?.getD zIt) 0)) := hco 0 nk1
   clear hcn hcm hco hj1 hk1' hN hM hNk hMk
   generalize nmAt (its[j]?.getD zIt) 0 = s0 at *
   generalize mkAt (its[j]?.getD zIt) 0 = m0 at *
   generalize nmAt (its[k]?.getD zIt) 0 = s1 at *
   have HY := Lib.hid HY
   have HN := Lib.hid HN
   have H3 := Lib.hid H3
   have HA := Lib.hid HA
   have HB := Lib.hid HB
   have kc : k ≤ c := by omega
   cases he : (s0.toList == s1.toList)
   ·
    have HR := Lib.hid (HB.out (HN.out he))
    generalize repTo its k j = t at *
    go_wp2
    go_quiet (fail)
    go_wp2
    go_roundw
    case rel => exact ⟨j + 1, _, by omega, by go_num, by rw [HR.out], (ext_ex bl).choose_spec⟩
    case measure => simp [intOf]; omega
   ·
    by_cases h3 : m0 = 3
    ·
     have HR := Lib.hid (HB.out (H3.out h3))
     subst h3
     generalize repTo its k j = t at *
     go_wp2
     go_quiet (fail)
     go_wp2
     go_roundw
     case rel => exact ⟨j + 1, _, by omega, by go_num, by rw [HR.out], (ext_ex bl).choose_spec⟩
     case measure => simp [intOf]; omega
    ·
     have HR := Lib.hid (HA.out (HY.out he h3))
     have b3 : (m0 == 3) = false := by simp [h3]
     generalize repTo its k j = t at *
     have e0 : IntKind.i64.wrap (t + 1) = t + 1 := IntWalk.i64_in _ (by omega)
     go_wp2
     go_quiet (fail)
     go_wp2
     go_roundw
     case rel => exact ⟨j + 1, _, by omega, by go_num, by rw [HR.out], (ext_ex bl).choose_spec⟩
     case measure => simp [intOf]; omega
  ·
   obtain rfl : j = k := by omega
   go_wp2
   go_ret
   exact ⟨ret_int rfl, ext_ex bl⟩
set_option maxHeartbeats 1000000 in
theorem bsItem_any (w : World) (A B : Option Addr) (n m c d : Nat) (els : List El) (q0 q1 q2 q3 : Int) (I : Option Addr) (n2 c2 : Nat) (its : List It) (k : Nat) (ha : RdEl w A n els) (hn : n ≤ 1099511627776) (hC : CodeG els q0 q1 q2) (hi : RdIt w I n2 its) (hk : k < n2) (hn2 : n2 ≤ 1099511627776) (hc2 : n2 ≤ c2) (hI : ItsG els its) :
  Calls Tryz.prog 155 #[.agg #[.slice A n c, .slice B m d, .int .i64 q0, .int .i64 q1, .int .i64 q2, .int .i64 q3], .slice I n2 c2, .int .i64 k] w fun e w' => e = .returned (.int .i64 (baseV els q0 q1 q2 its k)) ∧ ∃ y, w' = ext w y := by
 have Hl := Lib.hid hi.len
 have hIk := hI k (by rw [Hl.out]; exact hk)
 have hb := full_bd hC hIk
 have cr := fun W (h : Below w.heap.size w W) => bsRepeats_any W I n2 c2 els its k (hi.below h) hk hn2 hc2 hI
 obtain ⟨b, off, NA, nn, nc, MA, mn, mc, rfl, hb0, hc0, hc1, hc2', hN, hM, _, _⟩ := hi.at_ k hk
 have cf := fun W (h : Below w.heap.size w W) => bsFull_any W A B n m c d els q0 q1 q2 q3 NA MA nn nc mn mc (its[k]?.getD zIt) (ha.below h) hn hC (hN.below h) (hM.below h) hIk
 have HV : Hid (baseV els q0 q1 q2 its k = if repTo its k k < q0 then fullV els q1 q2 (its[k]?.getD zIt) else if repTo its k k = q0 then fullV els q1 q2 (its[k]?.getD zIt) * 7 / 10 else 0) := rfl
 clear hN hM hIk hi hI hC
 generalize repTo its k k = r at *
 generalize its[k]?.getD zIt = it at *
 generalize fullV els q1 q2 it = v at *
 have hR : (w.alloc (.cells #[.slice A n c, .slice B m d, .int .i64 q0, .int .i64 q1, .int .i64 q2, .int .i64 q3] 39)).cell? ⟨w.heap.size, 0, none⟩ = some (.slice A n c) ∧ (w.alloc (.cells #[.slice A n c, .slice B m d, .int .i64 q0, .int .i64 q1, .int .i64 q2, .int .i64 q3] 39)).cell? ⟨w.heap.size, 1, none⟩ = some (.slice B m d) ∧ (w.alloc (.cells #[.slice A n c, .slice B m d, .int .i64 q0, .int .i64 q1, .int .i64 q2, .int .i64 q3] 39)).cell? ⟨w.heap.size, 2, none⟩ = some (.int .i64 q0) ∧ (w.alloc (.cells #[.slice A n c, .slice B m d, .int .i64 q0, .int .i64 q1, .int .i64 q2, .int .i64 q3] 39)).cell? ⟨w.heap.size, 3, none⟩ = some (.int .i64 q1) ∧ (w.alloc (.cells #[.slice A n c, .slice B m d, .int .i64 q0, .int .i64 q1, .int .i64 q2, .int .i64 q3] 39)).cell? ⟨w.heap.size, 4, none⟩ = some (.int .i64 q2) ∧ (w.alloc (.cells #[.slice A n c, .slice B m d, .int .i64 q0, .int .i64 q1, .int .i64 q2, .int .i64 q3] 39)).cell? ⟨w.heap.size, 5, none⟩ = some (.int .i64 q3) ∧ (w.alloc (.cells #[.slice A n c, .slice B m d, .int .i64 q0, .int .i64 q1, .int .i64 q2, .int .i64 q3] 39)).cell? ⟨b, off + k * 3, none⟩ = some (.slice NA nn nc) ∧ (w.alloc (.cells #[.slice A n c, .slice B m d, .int .i64 q0, .int .i64 q1, .int .i64 q2, .int .i64 q3] 39)).cell? ⟨b, off + k * 3 + 1, none⟩ = some (.slice MA mn mc) ∧ (w.alloc (.cells #[.slice A n c, .slice B m d, .int .i64 q0, .int .i64 q1, .int .i64 q2, .int .i64 q3] 39)).cell? ⟨b, off + k * 3 + 2, none⟩ = some (.bool it.2.2) := by refine ⟨?_, ?_, ?_, ?_, ?_, ?_, ?_, ?_, ?_⟩ <;> first | assumption | simp [*, go_sem]
 have hS := fun (W : World) (h : Below (w.alloc (.cells #[.slice A n c, .slice B m d, .int .i64 q0, .int .i64 q1, .int .i64 q2, .int .i64 q3] 39)).heap.size (w.alloc (.cells #[.slice A n c, .slice B m d, .int .i64 q0, .int .i64 q1, .int .i64 q2, .int .i64 q3] 39)) W) => (⟨(h.cell (p := ⟨w.heap.size, 0, none⟩) (by first | assumption | (simp [go_sem]; done) | (simp [go_sem]; omega))).trans hR.1, (h.cell (p := ⟨w.heap.size, 1, none⟩) (by first | assumption | (simp [go_sem]; done) | (simp [go_sem]; omega))).trans hR.2.1, (h.cell (p := ⟨w.heap.size, 2, none⟩) (by first | assumption | (simp [go_sem]; done) | (simp [go_sem]; omega))).trans hR.2.2.1, (h.cell (p := ⟨w.heap.size, 3, none⟩) (by first | assumption | (simp [go_sem]; done) | (simp [go_sem]; omega))).trans hR.2.2.2.1, (h.cell (p := ⟨w.heap.size, 4, none⟩) (by first | assumption | (simp [go_sem]; done) | (simp [go_sem]; omega))).trans hR.2.2.2.2.1, (h.cell (p := ⟨w.heap.size, 5, none⟩) (by first | assumption | (simp [go_sem]; done) | (simp [go_sem]; omega))).trans hR.2.2.2.2.2.1, (h.cell (p := ⟨b, off + k * 3, none⟩) (by first | assumption | (simp [go_sem]; done) | (simp [go_sem]; omega))).trans hR.2.2.2.2.2.2.1, (h.cell (p := ⟨b, off + k * 3 + 1, none⟩) (by first | assumption | (simp [go_sem]; done) | (simp [go_sem]; omega))).trans hR.2.2.2.2.2.2.2.1, (h.cell (p := ⟨b, off + k * 3 + 2, none⟩) (by first | assumption | (simp [go_sem]; done) | (simp [go_sem]; omega))).trans hR.2.2.2.2.2.2.2.2⟩ : W.cell? ⟨w.heap.size, 0, none⟩ = some (.slice A n c) ∧ W.cell? ⟨w.heap.size, 1, none⟩ = some (.slice B m d) ∧ W.cell? ⟨w.heap.size, 2, none⟩ = some (.int .i64 q0) ∧ W.cell? ⟨w.heap.size, 3, none⟩ = some (.int .i64 q1) ∧ W.cell? ⟨w.heap.size, 4, none⟩ = some (.int .i64 q2) ∧ W.cell? ⟨w.heap.size, 5, none⟩ = some (.int .i64 q3) ∧ W.cell? ⟨b, off + k * 3, none⟩ = some (.slice NA nn nc) ∧ W.cell? ⟨b, off + k * 3 + 1, none⟩ = some (.slice MA mn mc) ∧ W.cell? ⟨b, off + k * 3 + 2, none⟩ = some (.bool it.2.2))
 clear hR
 clear hc0 hc1 hc2'
 by_cases h1 : r < q0
 ·
  go_enter Tryz.func155, Tryz.ntmps155
  go_wp2
  go_region_held3 (fun w' => w'.cell? ⟨w.heap.size, 0, none⟩ = some (.slice A n c) ∧ w'.cell? ⟨w.heap.size, 1, none⟩ = some (.slice B m d) ∧ w'.cell? ⟨w.heap.size, 2, none⟩ = some (.int .i64 q0) ∧ w'.cell? ⟨w.heap.size, 3, none⟩ = some (.int .i64 q1) ∧ w'.cell? ⟨w.heap.size, 4, none⟩ = some (.int .i64 q2) ∧ w'.cell? ⟨w.heap.size, 5, none⟩ = some (.int .i64 q3) ∧ w'.cell? ⟨b, off + k * 3, none⟩ = some (.slice NA nn nc) ∧ w'.cell? ⟨b, off + k * 3 + 1, none⟩ = some (.slice MA mn mc) ∧ w'.cell? ⟨b, off + k * 3 + 2, none⟩ = some (.bool it.2.2)) (exact hS _ bl) (first | (go_at_call 207; ((with_reducible refine (cr _ bl).mono ?_); rintro e w' ⟨rfl, y1, rfl⟩)) | (go_at_call 206; ((with_reducible refine (cf _ bl).mono ?_); rintro e w' ⟨rfl, y2, rfl⟩)))
  all_goals
   go_wp2_with (first | (go_at_call 207; ((with_reducible refine (cr _ bl).mono ?_); rintro e w' ⟨rfl, y1, rfl⟩)) | (go_at_call 206; ((with_reducible refine (cf _ bl).mono ?_); rintro e w' ⟨rfl, y2, rfl⟩)))
   go_ret
   exact ⟨ret_int (by rw [HV.out, if_pos h1]), ext_ex bl⟩
 ·
  by_cases h2 : r = q0
  ·
   obtain rfl := h2.symm
   have HW := Lib.hid (show baseV els q0 q1 q2 its k = v * 7 / 10 by rw [HV.out, if_neg h1, if_pos rfl])
   have e3 : (v * 7).tdiv 10 = v * 7 / 10 := Int.tdiv_eq_ediv_of_nonneg (by omega)
   have e4 : IntKind.i64.wrap (v * 7) = v * 7 := IntWalk.i64_in _ (by omega)
   have e5 : IntKind.i64.wrap (v * 7 / 10) = v * 7 / 10 := IntWalk.i64_in _ (by omega)
   clear HV h1
   go_enter Tryz.func155, Tryz.ntmps155
   go_wp2
   go_region_held3 (fun w' => w'.cell? ⟨w.heap.size, 0, none⟩ = some (.slice A n c) ∧ w'.cell? ⟨w.heap.size, 1, none⟩ = some (.slice B m d) ∧ w'.cell? ⟨w.heap.size, 2, none⟩ = some (.int .i64 q0) ∧ w'.cell? ⟨w.heap.size, 3, none⟩ = some (.int .i64 q1) ∧ w'.cell? ⟨w.heap.size, 4, none⟩ = some (.int .i64 q2) ∧ w'.cell? ⟨w.heap.size, 5, none⟩ = some (.int .i64 q3) ∧ w'.cell? ⟨b, off + k * 3, none⟩ = some (.slice NA nn nc) ∧ w'.cell? ⟨b, off + k * 3 + 1, none⟩ = some (.slice MA mn mc) ∧ w'.cell? ⟨b, off + k * 3 + 2, none⟩ = some (.bool it.2.2)) (exact hS _ bl) (first | (go_at_call 207; ((with_reducible refine (cr _ bl).mono ?_); rintro e w' ⟨rfl, y1, rfl⟩)) | (go_at_call 206; ((with_reducible refine (cf _ bl).mono ?_); rintro e w' ⟨rfl, y2, rfl⟩)))
   all_goals
    go_wp2_with (first | (go_at_call 207; ((with_reducible refine (cr _ bl).mono ?_); rintro e w' ⟨rfl, y1, rfl⟩)) | (go_at_call 206; ((with_reducible refine (cf _ bl).mono ?_); rintro e w' ⟨rfl, y2, rfl⟩)))
    go_ret
    exact ⟨ret_int (by rw [HW.out]), ext_ex bl⟩
  ·
   have b2 : (r == q0) = false := by simp [h2]
   have HW := Lib.hid (show baseV els q0 q1 q2 its k = 0 by rw [HV.out, if_neg h1, if_neg h2])
   clear HV
   go_enter Tryz.func155, Tryz.ntmps155
   go_wp2
   go_region_held3 (fun w' => w'.cell? ⟨w.heap.size, 0, none⟩ = some (.slice A n c) ∧ w'.cell? ⟨w.heap.size, 1, none⟩ = some (.slice B m d) ∧ w'.cell? ⟨w.heap.size, 2, none⟩ = some (.int .i64 q0) ∧ w'.cell? ⟨w.heap.size, 3, none⟩ = some (.int .i64 q1) ∧ w'.cell? ⟨w.heap.size, 4, none⟩ = some (.int .i64 q2) ∧ w'.cell? ⟨w.heap.size, 5, none⟩ = some (.int .i64 q3) ∧ w'.cell? ⟨b, off + k * 3, none⟩ = some (.slice NA nn nc) ∧ w'.cell? ⟨b, off + k * 3 + 1, none⟩ = some (.slice MA mn mc) ∧ w'.cell? ⟨b, off + k * 3 + 2, none⟩ = some (.bool it.2.2)) (exact hS _ bl) (first | (go_at_call 207; ((with_reducible refine (cr _ bl).mono ?_); rintro e w' ⟨rfl, y1, rfl⟩)) | (go_at_call 206; ((with_reducible refine (cf _ bl).mono ?_); rintro e w' ⟨rfl, y2, rfl⟩)))
   all_goals
    go_wp2_with (first | (go_at_call 207; ((with_reducible refine (cr _ bl).mono ?_); rintro e w' ⟨rfl, y1, rfl⟩)) | (go_at_call 206; ((with_reducible refine (cf _ bl).mono ?_); rintro e w' ⟨rfl, y2, rfl⟩)))
    go_ret
    exact ⟨ret_int (by rw [HW.out]), ext_ex bl⟩
set_option maxHeartbeats 1000000 in
theorem itemBase_any (w : World) (A B : Option Addr) (n m c d : Nat) (els : List El) (q0 q1 q2 q3 : Int) (I : Option Addr) (n2 c2 : Nat) (its : List It) (k : Nat) (ha : RdEl w A n els) (hn : n ≤ 1099511627776) (hC : CodeG els q0 q1 q2) (hi : RdIt w I n2 its) (hk : k < n2) (hn2 : n2 ≤ 1099511627776) (hc2 : n2 ≤ c2) (hI : ItsG els its) :
  Calls Tryz.prog 148 #[.agg #[.slice A n c, .slice B m d, .int .i64 q0, .int .i64 q1, .int .i64 q2, .int .i64 q3], .slice I n2 c2, .int .i64 k] w fun e w' => e = .returned (.int .i64 (baseV els q0 q1 q2 its k)) ∧ ∃ y, w' = ext w y := by
 have Hl := Lib.hid hi.len
 have hIk := hI k (by rw [Hl.out]; exact hk)
 have hb := full_bd hC hIk
 have cr := fun W (h : Below w.heap.size w W) => repeatsOf_any W I n2 c2 els its k (hi.below h) hk hn2 hc2 hI
 obtain ⟨b, off, NA, nn, nc, MA, mn, mc, rfl, hb0, hc0, hc1, hc2', hN, hM, _, _⟩ := hi.at_ k hk
 have cf := fun W (h : Below w.heap.size w W) => fullBase_any W A B n m c d els q0 q1 q2 q3 NA MA nn nc mn mc (its[k]?.getD zIt) (ha.below h) hn hC (hN.below h) (hM.below h) hIk
 have HV : Hid (baseV els q0 q1 q2 its k = if repTo its k k < q0 then fullV els q1 q2 (its[k]?.getD zIt) else if repTo its k k = q0 then fullV els q1 q2 (its[k]?.getD zIt) * 7 / 10 else 0) := rfl
 clear hN hM hIk hi hI hC
 generalize repTo its k k = r at *
 generalize its[k]?.getD zIt = it at *
 generalize fullV els q1 q2 it = v at *
 have hR : (w.alloc (.cells #[.slice A n c, .slice B m d, .int .i64 q0, .int .i64 q1, .int .i64 q2, .int .i64 q3] 39)).cell? ⟨w.heap.size, 0, none⟩ = some (.slice A n c) ∧ (w.alloc (.cells #[.slice A n c, .slice B m d, .int .i64 q0, .int .i64 q1, .int .i64 q2, .int .i64 q3] 39)).cell? ⟨w.heap.size, 1, none⟩ = some (.slice B m d) ∧ (w.alloc (.cells #[.slice A n c, .slice B m d, .int .i64 q0, .int .i64 q1, .int .i64 q2, .int .i64 q3] 39)).cell? ⟨w.heap.size, 2, none⟩ = some (.int .i64 q0) ∧ (w.alloc (.cells #[.slice A n c, .slice B m d, .int .i64 q0, .int .i64 q1, .int .i64 q2, .int .i64 q3] 39)).cell? ⟨w.heap.size, 3, none⟩ = some (.int .i64 q1) ∧ (w.alloc (.cells #[.slice A n c, .slice B m d, .int .i64 q0, .int .i64 q1, .int .i64 q2, .int .i64 q3] 39)).cell? ⟨w.heap.size, 4, none⟩ = some (.int .i64 q2) ∧ (w.alloc (.cells #[.slice A n c, .slice B m d, .int .i64 q0, .int .i64 q1, .int .i64 q2, .int .i64 q3] 39)).cell? ⟨w.heap.size, 5, none⟩ = some (.int .i64 q3) ∧ (w.alloc (.cells #[.slice A n c, .slice B m d, .int .i64 q0, .int .i64 q1, .int .i64 q2, .int .i64 q3] 39)).cell? ⟨b, off + k * 3, none⟩ = some (.slice NA nn nc) ∧ (w.alloc (.cells #[.slice A n c, .slice B m d, .int .i64 q0, .int .i64 q1, .int .i64 q2, .int .i64 q3] 39)).cell? ⟨b, off + k * 3 + 1, none⟩ = some (.slice MA mn mc) ∧ (w.alloc (.cells #[.slice A n c, .slice B m d, .int .i64 q0, .int .i64 q1, .int .i64 q2, .int .i64 q3] 39)).cell? ⟨b, off + k * 3 + 2, none⟩ = some (.bool it.2.2) := by refine ⟨?_, ?_, ?_, ?_, ?_, ?_, ?_, ?_, ?_⟩ <;> first | assumption | simp [*, go_sem]
 have hS := fun (W : World) (h : Below (w.alloc (.cells #[.slice A n c, .slice B m d, .int .i64 q0, .int .i64 q1, .int .i64 q2, .int .i64 q3] 39)).heap.size (w.alloc (.cells #[.slice A n c, .slice B m d, .int .i64 q0, .int .i64 q1, .int .i64 q2, .int .i64 q3] 39)) W) => (⟨(h.cell (p := ⟨w.heap.size, 0, none⟩) (by first | assumption | (simp [go_sem]; done) | (simp [go_sem]; omega))).trans hR.1, (h.cell (p := ⟨w.heap.size, 1, none⟩) (by first | assumption | (simp [go_sem]; done) | (simp [go_sem]; omega))).trans hR.2.1, (h.cell (p := ⟨w.heap.size, 2, none⟩) (by first | assumption | (simp [go_sem]; done) | (simp [go_sem]; omega))).trans hR.2.2.1, (h.cell (p := ⟨w.heap.size, 3, none⟩) (by first | assumption | (simp [go_sem]; done) | (simp [go_sem]; omega))).trans hR.2.2.2.1, (h.cell (p := ⟨w.heap.size, 4, none⟩) (by first | assumption | (simp [go_sem]; done) | (simp [go_sem]; omega))).trans hR.2.2.2.2.1, (h.cell (p := ⟨w.heap.size, 5, none⟩) (by first | assumption | (simp [go_sem]; done) | (simp [go_sem]; omega))).trans hR.2.2.2.2.2.1, (h.cell (p := ⟨b, off + k * 3, none⟩) (by first | assumption | (simp [go_sem]; done) | (simp [go_sem]; omega))).trans hR.2.2.2.2.2.2.1, (h.cell (p := ⟨b, off + k * 3 + 1, none⟩) (by first | assumption | (simp [go_sem]; done) | (simp [go_sem]; omega))).trans hR.2.2.2.2.2.2.2.1, (h.cell (p := ⟨b, off + k * 3 + 2, none⟩) (by first | assumption | (simp [go_sem]; done) | (simp [go_sem]; omega))).trans hR.2.2.2.2.2.2.2.2⟩ : W.cell? ⟨w.heap.size, 0, none⟩ = some (.slice A n c) ∧ W.cell? ⟨w.heap.size, 1, none⟩ = some (.slice B m d) ∧ W.cell? ⟨w.heap.size, 2, none⟩ = some (.int .i64 q0) ∧ W.cell? ⟨w.heap.size, 3, none⟩ = some (.int .i64 q1) ∧ W.cell? ⟨w.heap.size, 4, none⟩ = some (.int .i64 q2) ∧ W.cell? ⟨w.heap.size, 5, none⟩ = some (.int .i64 q3) ∧ W.cell? ⟨b, off + k * 3, none⟩ = some (.slice NA nn nc) ∧ W.cell? ⟨b, off + k * 3 + 1, none⟩ = some (.slice MA mn mc) ∧ W.cell? ⟨b, off + k * 3 + 2, none⟩ = some (.bool it.2.2))
 clear hR
 clear hc0 hc1 hc2'
 by_cases h1 : r < q0
 ·
  go_enter Tryz.func148, Tryz.ntmps148
  go_wp2
  go_region_held3 (fun w' => w'.cell? ⟨w.heap.size, 0, none⟩ = some (.slice A n c) ∧ w'.cell? ⟨w.heap.size, 1, none⟩ = some (.slice B m d) ∧ w'.cell? ⟨w.heap.size, 2, none⟩ = some (.int .i64 q0) ∧ w'.cell? ⟨w.heap.size, 3, none⟩ = some (.int .i64 q1) ∧ w'.cell? ⟨w.heap.size, 4, none⟩ = some (.int .i64 q2) ∧ w'.cell? ⟨w.heap.size, 5, none⟩ = some (.int .i64 q3) ∧ w'.cell? ⟨b, off + k * 3, none⟩ = some (.slice NA nn nc) ∧ w'.cell? ⟨b, off + k * 3 + 1, none⟩ = some (.slice MA mn mc) ∧ w'.cell? ⟨b, off + k * 3 + 2, none⟩ = some (.bool it.2.2)) (exact hS _ bl) (first | (go_at_call 197; ((with_reducible refine (cr _ bl).mono ?_); rintro e w' ⟨rfl, y1, rfl⟩)) | (go_at_call 198; ((with_reducible refine (cf _ bl).mono ?_); rintro e w' ⟨rfl, y2, rfl⟩)))
  all_goals
   go_wp2
   go_ret
   exact ⟨ret_int (by rw [HV.out, if_pos h1]), ext_ex bl⟩
 ·
  by_cases h2 : r = q0
  ·
   obtain rfl := h2.symm
   have HW := Lib.hid (show baseV els q0 q1 q2 its k = v * 7 / 10 by rw [HV.out, if_neg h1, if_pos rfl])
   have e3 : (v * 7).tdiv 10 = v * 7 / 10 := Int.tdiv_eq_ediv_of_nonneg (by omega)
   have e4 : IntKind.i64.wrap (v * 7) = v * 7 := IntWalk.i64_in _ (by omega)
   have e5 : IntKind.i64.wrap (v * 7 / 10) = v * 7 / 10 := IntWalk.i64_in _ (by omega)
   clear HV h1
   go_enter Tryz.func148, Tryz.ntmps148
   go_wp2
   go_region_held3 (fun w' => w'.cell? ⟨w.heap.size, 0, none⟩ = some (.slice A n c) ∧ w'.cell? ⟨w.heap.size, 1, none⟩ = some (.slice B m d) ∧ w'.cell? ⟨w.heap.size, 2, none⟩ = some (.int .i64 q0) ∧ w'.cell? ⟨w.heap.size, 3, none⟩ = some (.int .i64 q1) ∧ w'.cell? ⟨w.heap.size, 4, none⟩ = some (.int .i64 q2) ∧ w'.cell? ⟨w.heap.size, 5, none⟩ = some (.int .i64 q3) ∧ w'.cell? ⟨b, off + k * 3, none⟩ = some (.slice NA nn nc) ∧ w'.cell? ⟨b, off + k * 3 + 1, none⟩ = some (.slice MA mn mc) ∧ w'.cell? ⟨b, off + k * 3 + 2, none⟩ = some (.bool it.2.2)) (exact hS _ bl) (first | (go_at_call 197; ((with_reducible refine (cr _ bl).mono ?_); rintro e w' ⟨rfl, y1, rfl⟩)) | (go_at_call 198; ((with_reducible refine (cf _ bl).mono ?_); rintro e w' ⟨rfl, y2, rfl⟩)))
   all_goals
    go_wp2
    go_ret
    exact ⟨ret_int (by rw [HW.out]), ext_ex bl⟩
  ·
   have b2 : (r == q0) = false := by simp [h2]
   have HW := Lib.hid (show baseV els q0 q1 q2 its k = 0 by rw [HV.out, if_neg h1, if_neg h2])
   clear HV
   go_enter Tryz.func148, Tryz.ntmps148
   go_wp2
   go_region_held3 (fun w' => w'.cell? ⟨w.heap.size, 0, none⟩ = some (.slice A n c) ∧ w'.cell? ⟨w.heap.size, 1, none⟩ = some (.slice B m d) ∧ w'.cell? ⟨w.heap.size, 2, none⟩ = some (.int .i64 q0) ∧ w'.cell? ⟨w.heap.size, 3, none⟩ = some (.int .i64 q1) ∧ w'.cell? ⟨w.heap.size, 4, none⟩ = some (.int .i64 q2) ∧ w'.cell? ⟨w.heap.size, 5, none⟩ = some (.int .i64 q3) ∧ w'.cell? ⟨b, off + k * 3, none⟩ = some (.slice NA nn nc) ∧ w'.cell? ⟨b, off + k * 3 + 1, none⟩ = some (.slice MA mn mc) ∧ w'.cell? ⟨b, off + k * 3 + 2, none⟩ = some (.bool it.2.2)) (exact hS _ bl) (first | (go_at_call 197; ((with_reducible refine (cr _ bl).mono ?_); rintro e w' ⟨rfl, y1, rfl⟩)) | (go_at_call 198; ((with_reducible refine (cf _ bl).mono ?_); rintro e w' ⟨rfl, y2, rfl⟩)))
   all_goals
    go_wp2
    go_ret
    exact ⟨ret_int (by rw [HW.out]), ext_ex bl⟩
end Go.Proofs.YtmeaklaagglmeaaGreatDoor
