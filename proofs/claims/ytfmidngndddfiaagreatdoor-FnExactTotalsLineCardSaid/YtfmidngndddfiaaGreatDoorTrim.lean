/- Contracts: trimmed sums of marks, the unit of an item. Conditions: at most 1000 marks, each at most 100000; a valid code, a known item. -/
import Derived.Test.YtfmidngndddfiaaGreatDoorBase4
import Derived.Test.YtfmidngndddfiaaGreatDoorTrimS
import Derived.BigQuiet
set_option linter.unusedVariables false
set_option linter.unusedSimpArgs false
set_option maxRecDepth 100000
namespace Go.Proofs.YtfmidngndddfiaaGreatDoor
open Go.RowKit
theorem l1MostU_any (a b : Int) (w : World) : Calls Tryz.prog 103 #[.int .i64 a, .int .i64 b] w fun e w' => e = .returned (.int .i64 (max a b)) ∧ w = w' := by
  by_cases h : b < a
  · rw [show max a b = a by omega]
    go_enter Tryz.func103, Tryz.ntmps103
    go_wp2
    go_ret
    exact ⟨rfl, rfl⟩
  · rw [show max a b = b by omega]
    go_enter Tryz.func103, Tryz.ntmps103
    go_wp2
    go_ret
    exact ⟨rfl, rfl⟩
set_option maxHeartbeats 400000 in
theorem poSum_any (w : World) (A : Option Addr) (n c : Nat) (l : List Int) (ha : RdI w A n l) (hn : n ≤ 1000) (hb : ∀ x ∈ l, -100000 ≤ x ∧ x ≤ 100000) :
    Calls Tryz.prog 130 #[.slice A n c] w fun e w' => e = .returned (.int .i64 (sumTo l n)) ∧ w = w' := by
  have Hl := Lib.hid ha.len
  go_enter Tryz.func130, Tryz.ntmps130
  go_wp2
  go_loop [3, 5, 8] (fun t _ i => ∃ k : Nat, k ≤ n ∧ i = .int .i64 k ∧ t = .int .i64 (sumTo l k)) (fun _ _ i => n - (intOf i).toNat)
  case atStart => exact ⟨0, by omega, rfl, rfl⟩
  case round =>
    obtain ⟨k, hk, rfl, rfl⟩ := hrel
    by_cases hlt : k < n
    · obtain ⟨b, off, rfl, hb0, hc⟩ := ha.open_ (by omega)
      have hck := hc k hlt
      rw [List.getD_eq_getElem?_getD] at hck
      have h1 := sumTo_bd (by omega) hb k
      have h2 := hb _ (getD_mem 0 l k (by rw [Hl.out]; exact hlt))
      have HS := Lib.hid (sumTo_succ l k (by rw [Hl.out]; exact hlt))
      clear hc
      generalize l[k]?.getD 0 = x at *
      generalize sumTo l k = s at *
      go_wp2
      go_round
      case rel => exact ⟨k + 1, by omega, by go_num, by rw [HS.out]⟩
      case measure => simp [intOf]; omega
    · have hkn := Lib.hid (show k = n by omega)
      go_wp2
      go_ret
      exact ⟨ret_int (by rw [hkn.out]), rfl⟩
theorem tmMean_any (w : World) (A : Option Addr) (n c : Nat) (l : List Int) (ha : RdI w A n l) (h0 : 0 < n) (hn : n ≤ 1000) (hb : ∀ x ∈ l, -100000 ≤ x ∧ x ≤ 100000) :
    Calls Tryz.prog 150 #[.slice A n c] w (fun e w' => e = .returned (.tuple #[.int .i64 (trimS l), .int .i64 (trimN l : Nat)]) ∧ ∃ y, w' = ext w y) := by
  have hl := ha.len
  have h1 := sumTo_bd (c := 100000) (by omega) hb n
  have Hm := maxOf_mem (l := l) (by omega)
  have Hi := minOf_mem (l := l) (by omega)
  have m1 := hb _ Hm.1
  have m2 := hb _ Hi.1
  have HS : Hid (trimS l = if n < 5 then sumTo l n else sumTo l n - Lib.maxOf l - Lib.minOf l) := by unfold Hid trimS; rw [hl]
  have HN : Hid (trimN l = if n < 5 then n else n - 2) := by unfold Hid trimN; rw [hl]
  have cs := fun W (h : Below w.heap.size w W) => poSum_any W A n c l (ha.below h) hn hb
  have ct := fun W (h : Below w.heap.size w W) => poSorted_any W A n c l (ha.below h) (by omega)
  have HF := Lib.hid (show (desTo l n)[0]?.getD 0 = Lib.maxOf l by rw [← hl]; exact desTo_first (by omega))
  have HL := Lib.hid (show (desTo l n)[n - 1]?.getD 0 = Lib.minOf l by rw [← hl]; exact desTo_last (by omega))
  have hdl := desTo_len l n (by omega)
  clear Hm Hi hb hl
  generalize Lib.maxOf l = mx at *
  generalize Lib.minOf l = mi at *
  generalize sumTo l n = s at *
  generalize desTo l n = out at *
  by_cases h5 : n < 5
  · have h5I : (n : Int) < 5 := by omega
    go_enter Tryz.func150, Tryz.ntmps150
    go_wp2_with (first | (go_at_call 130; ((with_reducible refine (cs _ (by repeat (first | exact Below.refl _ _ | assumption | refine bExt ?_ _ | refine bAlloc ?_ _ | refine bDrewN ?_ _ | refine bDrew ?_ | refine bSet ?_ (by first | exact Nat.le_refl _ | omega | (simp; done) | (simp; omega)) _))).mono ?_); rintro e w' ⟨rfl, rfl⟩)))
    go_ret2
    exact ⟨ret_int2 (by rw [HS.out, if_pos h5]) (by rw [HN.out, if_pos h5]), ext_ex (by repeat (first | exact Below.refl _ _ | assumption | refine bExt ?_ _ | refine bAlloc ?_ _ | refine bDrewN ?_ _ | refine bDrew ?_ | refine bSet ?_ (by first | exact Nat.le_refl _ | omega | (simp; done) | (simp; omega)) _))⟩
  · have h5I : ¬ (n : Int) < 5 := by omega
    have HS2 := Lib.hid (show trimS l = s - mx - mi by rw [HS.out, if_neg h5])
    have HN2 := Lib.hid (show ((trimN l : Nat) : Int) = (n : Int) - 2 by rw [HN.out, if_neg h5]; omega)
    have e1 : IntKind.i64.wrap (s - mx) = s - mx := IntWalk.i64_in _ (by omega)
    have e2 : IntKind.i64.wrap (s - mx - mi) = s - mx - mi := IntWalk.i64_in _ (by omega)
    have e3 : IntKind.i64.wrap ((n : Int) - 2) = (n : Int) - 2 := IntWalk.i64_in _ (by omega)
    have e4 : IntKind.i64.wrap ((n : Int) - 1) = ((n - 1 : Nat) : Int) := by rw [IntWalk.i64_in _ (by omega)]; omega
    have hn1 : n - 1 < n := by omega
    have hn1I : ((n - 1 : Nat) : Int) < n := by omega
    clear HS HN
    go_enter Tryz.func150, Tryz.ntmps150
    go_wp2_with (first | (go_at_call 130; ((with_reducible refine (cs _ (by repeat (first | exact Below.refl _ _ | assumption | refine bExt ?_ _ | refine bAlloc ?_ _ | refine bDrewN ?_ _ | refine bDrew ?_ | refine bSet ?_ (by first | exact Nat.le_refl _ | omega | (simp; done) | (simp; omega)) _))).mono ?_); rintro e w' ⟨rfl, rfl⟩)) | (go_at_call 167; ((with_reducible refine (ct _ (by repeat (first | exact Below.refl _ _ | assumption | refine bExt ?_ _ | refine bAlloc ?_ _ | refine bDrewN ?_ _ | refine bDrew ?_ | refine bSet ?_ (by first | exact Nat.le_refl _ | omega | (simp; done) | (simp; omega)) _))).mono ?_); rintro e w' ⟨A1, n1, c1, x1, rfl, rfl, o1⟩; (obtain rfl : n = n1 := hdl.symm.trans o1.len))))
    obtain ⟨g, rfl, hg1, hg2⟩ := o1.form_ (by omega)
    have k0 := o1.cell_ 0 (by omega)
    have k1 := o1.cell_ (n - 1) (by omega)
    rw [HF.out] at k0
    rw [HL.out] at k1
    clear o1
    go_quiet (fail)
    go_wp2
    go_ret2
    exact ⟨ret_int2 (by rw [HS2.out]) (by rw [HN2.out]), ext_ex (by repeat (first | exact Below.refl _ _ | assumption | refine bExt ?_ _ | refine bAlloc ?_ _ | refine bDrewN ?_ _ | refine bDrew ?_ | refine bSet ?_ (by first | exact Nat.le_refl _ | omega | (simp; done) | (simp; omega)) _))⟩
theorem trimmedSum_any (w : World) (A : Option Addr) (n c : Nat) (l : List Int) (ha : RdI w A n l) (h0 : 0 < n) (hn : n ≤ 1000) (hb : ∀ x ∈ l, -100000 ≤ x ∧ x ≤ 100000) :
    Calls Tryz.prog 93 #[.slice A n c] w (fun e w' => e = .returned (.tuple #[.int .i64 (trimS l), .int .i64 (trimN l : Nat)]) ∧ ∃ y, w' = ext w y) := by
  have hl := ha.len
  have h1 := sumTo_bd (c := 100000) (by omega) hb n
  have Hm := maxOf_mem (l := l) (by omega)
  have Hi := minOf_mem (l := l) (by omega)
  have m1 := hb _ Hm.1
  have m2 := hb _ Hi.1
  have HS : Hid (trimS l = if n < 5 then sumTo l n else sumTo l n - Lib.maxOf l - Lib.minOf l) := by unfold Hid trimS; rw [hl]
  have HN : Hid (trimN l = if n < 5 then n else n - 2) := by unfold Hid trimN; rw [hl]
  have cs := fun W (h : Below w.heap.size w W) => sumInts_any W A n c l (ha.below h) hn hb
  have cm := fun W (h : Below w.heap.size w W) => maxInts_any W A n c l (ha.below h) h0 (by omega)
  have ci := fun W (h : Below w.heap.size w W) => minInts_any W A n c l (ha.below h) h0 (by omega)
  clear Hm Hi hb hl
  generalize Lib.maxOf l = mx at *
  generalize Lib.minOf l = mi at *
  generalize sumTo l n = s at *
  by_cases h5 : n < 5
  · have h5I : (n : Int) < 5 := by omega
    go_enter Tryz.func93, Tryz.ntmps93
    go_wp2_with (first | (go_at_call 106; ((with_reducible refine (cs _ (by repeat (first | exact Below.refl _ _ | assumption | refine bExt ?_ _ | refine bAlloc ?_ _ | refine bDrewN ?_ _ | refine bDrew ?_ | refine bSet ?_ (by first | exact Nat.le_refl _ | omega | (simp; done) | (simp; omega)) _))).mono ?_); rintro e w' ⟨rfl, rfl⟩)))
    go_ret2
    exact ⟨ret_int2 (by rw [HS.out, if_pos h5]) (by rw [HN.out, if_pos h5]), ext_ex (by repeat (first | exact Below.refl _ _ | assumption | refine bExt ?_ _ | refine bAlloc ?_ _ | refine bDrewN ?_ _ | refine bDrew ?_ | refine bSet ?_ (by first | exact Nat.le_refl _ | omega | (simp; done) | (simp; omega)) _))⟩
  · have h5I : ¬ (n : Int) < 5 := by omega
    have HS2 := Lib.hid (show trimS l = s - mx - mi by rw [HS.out, if_neg h5])
    have HN2 := Lib.hid (show ((trimN l : Nat) : Int) = (n : Int) - 2 by rw [HN.out, if_neg h5]; omega)
    have e1 : IntKind.i64.wrap (s - mx) = s - mx := IntWalk.i64_in _ (by omega)
    have e2 : IntKind.i64.wrap (s - mx - mi) = s - mx - mi := IntWalk.i64_in _ (by omega)
    have e3 : IntKind.i64.wrap ((n : Int) - 2) = (n : Int) - 2 := IntWalk.i64_in _ (by omega)
    clear HS HN
    go_enter Tryz.func93, Tryz.ntmps93
    go_wp2_with (first | (go_at_call 106; ((with_reducible refine (cs _ (by repeat (first | exact Below.refl _ _ | assumption | refine bExt ?_ _ | refine bAlloc ?_ _ | refine bDrewN ?_ _ | refine bDrew ?_ | refine bSet ?_ (by first | exact Nat.le_refl _ | omega | (simp; done) | (simp; omega)) _))).mono ?_); rintro e w' ⟨rfl, rfl⟩)) | (go_at_call 125; ((with_reducible refine (cm _ (by repeat (first | exact Below.refl _ _ | assumption | refine bExt ?_ _ | refine bAlloc ?_ _ | refine bDrewN ?_ _ | refine bDrew ?_ | refine bSet ?_ (by first | exact Nat.le_refl _ | omega | (simp; done) | (simp; omega)) _))).mono ?_); rintro e w' ⟨rfl, rfl⟩)) | (go_at_call 126; ((with_reducible refine (ci _ (by repeat (first | exact Below.refl _ _ | assumption | refine bExt ?_ _ | refine bAlloc ?_ _ | refine bDrewN ?_ _ | refine bDrew ?_ | refine bSet ?_ (by first | exact Nat.le_refl _ | omega | (simp; done) | (simp; omega)) _))).mono ?_); rintro e w' ⟨rfl, rfl⟩)))
    go_ret2
    exact ⟨ret_int2 (by rw [HS2.out]) (by rw [HN2.out]), ext_ex (by repeat (first | exact Below.refl _ _ | assumption | refine bExt ?_ _ | refine bAlloc ?_ _ | refine bDrewN ?_ _ | refine bDrew ?_ | refine bSet ?_ (by first | exact Nat.le_refl _ | omega | (simp; done) | (simp; omega)) _))⟩
set_option maxHeartbeats 1000000 in
theorem elUnit_any (w : World) (A B : Option Addr) (n m c d : Nat) (els : List El) (q0 q1 q2 q3 : Int) (NA MA : Option Addr) (nn nc mn mc : Nat) (it : It) (ha : RdEl w A n els) (hn : n ≤ 1099511627776) (hC : CodeG els q0 q1 q2) (hN : RdT w NA nn it.1) (hM : RdI w MA mn it.2.1) (hI : ItG els it) :
    Calls Tryz.prog 151 #[.agg #[.slice A n c, .slice B m d, .int .i64 q0, .int .i64 q1, .int .i64 q2, .int .i64 q3], .agg #[.slice NA nn nc, .slice MA mn mc, .bool it.2.2]] w fun e w' => e = .returned (.int .i64 (unitV els q2 it)) ∧ ∃ y, w' = ext w y := by
  have Hn := Lib.hid hN.len
  have Hm := Lib.hid hM.len
  have hI1 := hI.1.2
  have hIm := hI.2.1
  rw [Hn.out] at hI1 hIm
  rw [Hm.out] at hIm
  obtain rfl := hIm.symm
  obtain ⟨hq1, hq2⟩ := hC.2.2
  have cw := fun W s mark (h : Below w.heap.size w W) hf => bsWorth_any W A B n m c d els q0 q1 q2 q3 s mark (ha.below h) hn hf hC.1 hq2.1 hq2.2
  have hkn := hI.2.2
  rw [Hn.out] at hkn
  have HV := Lib.hid (uMost_all hC hI)
  have HV : Hid (uMost els q2 it nn = unitV els q2 it) := by have := HV.out; rwa [Hn.out] at this
  obtain ⟨late, hlate⟩ : ∃ l, it.2.2 = l := ⟨_, rfl⟩
  rw [hlate]
  clear hlate hC hI
  go_enter Tryz.func151, Tryz.ntmps151
  go_wp2
  go_loopw [5, 6, 7, 11] (fun t _ _ i wr => ∃ (k : Nat) (y : World), k ≤ nn ∧ i = .int .i64 k ∧ t = .int .i64 (uMost els q2 it k) ∧ wr = ext ((w.alloc (.cells #[.slice A n c, .slice B m d, .int .i64 q0, .int .i64 q1, .int .i64 q2, .int .i64 q3] 40)).alloc (.cells #[.slice NA nn nc, .slice MA nn mc, .bool late] 87)) y) (fun _ _ _ i _ => nn - (intOf i).toNat)
  case atStart => exact ⟨0, _, by omega, rfl, by simp [uMost, wTo], ext_self _⟩
  case round =>
    obtain ⟨k, y, hk, rfl, rfl, rfl⟩ := hrel
    by_cases hlt : k < nn
    · obtain ⟨bn, on, rfl, hbn, hcn⟩ := hN.open_ (by omega)
      obtain ⟨bm, om, rfl, hbm, hcm⟩ := hM.open_ (by omega)
      have hcnk : w.cell? ⟨bn, on + k, none⟩ = some (.string (nmAt it k)) := hcn k hlt
      have hcmk : w.cell? ⟨bm, om + k, none⟩ = some (.int .i64 (mkAt it k)) := by have := hcm k (by omega); rwa [List.getD_eq_getElem?_getD] at this
      have hf : 0 ≤ findE els (nmAt it k) := hkn k hlt
      have HS := Lib.hid (uMost_succ els q2 it k)
      have cs := fun W (h : Below w.heap.size w W) => cw W (nmAt it k) (mkAt it k) h hf
      clear hcn hcm cw hf hkn
      generalize uMost els q2 it k = s at *
      generalize wAt els q2 (nmAt it k) (mkAt it k) = v at *
      generalize nmAt it k = nm at *
      generalize mkAt it k = mk at *
      have hR : ((w.alloc (.cells #[.slice A n c, .slice B m d, .int .i64 q0, .int .i64 q1, .int .i64 q2, .int .i64 q3] 40)).alloc (.cells #[.slice (some ⟨bn, on, none⟩) nn nc, .slice (some ⟨bm, om, none⟩) nn mc, .bool late] 87)).cell? ⟨w.heap.size, 0, none⟩ = some (.slice A n c) ∧ ((w.alloc (.cells #[.slice A n c, .slice B m d, .int .i64 q0, .int .i64 q1, .int .i64 q2, .int .i64 q3] 40)).alloc (.cells #[.slice (some ⟨bn, on, none⟩) nn nc, .slice (some ⟨bm, om, none⟩) nn mc, .bool late] 87)).cell? ⟨w.heap.size, 1, none⟩ = some (.slice B m d) ∧ ((w.alloc (.cells #[.slice A n c, .slice B m d, .int .i64 q0, .int .i64 q1, .int .i64 q2, .int .i64 q3] 40)).alloc (.cells #[.slice (some ⟨bn, on, none⟩) nn nc, .slice (some ⟨bm, om, none⟩) nn mc, .bool late] 87)).cell? ⟨w.heap.size, 2, none⟩ = some (.int .i64 q0) ∧ ((w.alloc (.cells #[.slice A n c, .slice B m d, .int .i64 q0, .int .i64 q1, .int .i64 q2, .int .i64 q3] 40)).alloc (.cells #[.slice (some ⟨bn, on, none⟩) nn nc, .slice (some ⟨bm, om, none⟩) nn mc, .bool late] 87)).cell? ⟨w.heap.size, 3, none⟩ = some (.int .i64 q1) ∧ ((w.alloc (.cells #[.slice A n c, .slice B m d, .int .i64 q0, .int .i64 q1, .int .i64 q2, .int .i64 q3] 40)).alloc (.cells #[.slice (some ⟨bn, on, none⟩) nn nc, .slice (some ⟨bm, om, none⟩) nn mc, .bool late] 87)).cell? ⟨w.heap.size, 4, none⟩ = some (.int .i64 q2) ∧ ((w.alloc (.cells #[.slice A n c, .slice B m d, .int .i64 q0, .int .i64 q1, .int .i64 q2, .int .i64 q3] 40)).alloc (.cells #[.slice (some ⟨bn, on, none⟩) nn nc, .slice (some ⟨bm, om, none⟩) nn mc, .bool late] 87)).cell? ⟨w.heap.size, 5, none⟩ = some (.int .i64 q3) ∧ ((w.alloc (.cells #[.slice A n c, .slice B m d, .int .i64 q0, .int .i64 q1, .int .i64 q2, .int .i64 q3] 40)).alloc (.cells #[.slice (some ⟨bn, on, none⟩) nn nc, .slice (some ⟨bm, om, none⟩) nn mc, .bool late] 87)).cell? ⟨w.heap.size + 1, 0, none⟩ = some (.slice (some ⟨bn, on, none⟩) nn nc) ∧ ((w.alloc (.cells #[.slice A n c, .slice B m d, .int .i64 q0, .int .i64 q1, .int .i64 q2, .int .i64 q3] 40)).alloc (.cells #[.slice (some ⟨bn, on, none⟩) nn nc, .slice (some ⟨bm, om, none⟩) nn mc, .bool late] 87)).cell? ⟨w.heap.size + 1, 1, none⟩ = some (.slice (some ⟨bm, om, none⟩) nn mc) ∧ ((w.alloc (.cells #[.slice A n c, .slice B m d, .int .i64 q0, .int .i64 q1, .int .i64 q2, .int .i64 q3] 40)).alloc (.cells #[.slice (some ⟨bn, on, none⟩) nn nc, .slice (some ⟨bm, om, none⟩) nn mc, .bool late] 87)).cell? ⟨w.heap.size + 1, 2, none⟩ = some (.bool late) ∧ ((w.alloc (.cells #[.slice A n c, .slice B m d, .int .i64 q0, .int .i64 q1, .int .i64 q2, .int .i64 q3] 40)).alloc (.cells #[.slice (some ⟨bn, on, none⟩) nn nc, .slice (some ⟨bm, om, none⟩) nn mc, .bool late] 87)).cell? ⟨bm, om + k, none⟩ = some (.int .i64 mk) := by refine ⟨?_, ?_, ?_, ?_, ?_, ?_, ?_, ?_, ?_, ?_⟩ <;> first | assumption | simp [*, go_sem]
      have hS := fun (W : World) (h : Below ((w.alloc (.cells #[.slice A n c, .slice B m d, .int .i64 q0, .int .i64 q1, .int .i64 q2, .int .i64 q3] 40)).alloc (.cells #[.slice (some ⟨bn, on, none⟩) nn nc, .slice (some ⟨bm, om, none⟩) nn mc, .bool late] 87)).heap.size ((w.alloc (.cells #[.slice A n c, .slice B m d, .int .i64 q0, .int .i64 q1, .int .i64 q2, .int .i64 q3] 40)).alloc (.cells #[.slice (some ⟨bn, on, none⟩) nn nc, .slice (some ⟨bm, om, none⟩) nn mc, .bool late] 87)) W) => (⟨(h.cell (p := ⟨w.heap.size, 0, none⟩) (by first | assumption | (simp [go_sem]; done) | (simp [go_sem]; omega))).trans hR.1, (h.cell (p := ⟨w.heap.size, 1, none⟩) (by first | assumption | (simp [go_sem]; done) | (simp [go_sem]; omega))).trans hR.2.1, (h.cell (p := ⟨w.heap.size, 2, none⟩) (by first | assumption | (simp [go_sem]; done) | (simp [go_sem]; omega))).trans hR.2.2.1, (h.cell (p := ⟨w.heap.size, 3, none⟩) (by first | assumption | (simp [go_sem]; done) | (simp [go_sem]; omega))).trans hR.2.2.2.1, (h.cell (p := ⟨w.heap.size, 4, none⟩) (by first | assumption | (simp [go_sem]; done) | (simp [go_sem]; omega))).trans hR.2.2.2.2.1, (h.cell (p := ⟨w.heap.size, 5, none⟩) (by first | assumption | (simp [go_sem]; done) | (simp [go_sem]; omega))).trans hR.2.2.2.2.2.1, (h.cell (p := ⟨w.heap.size + 1, 0, none⟩) (by first | assumption | (simp [go_sem]; done) | (simp [go_sem]; omega))).trans hR.2.2.2.2.2.2.1, (h.cell (p := ⟨w.heap.size + 1, 1, none⟩) (by first | assumption | (simp [go_sem]; done) | (simp [go_sem]; omega))).trans hR.2.2.2.2.2.2.2.1, (h.cell (p := ⟨w.heap.size + 1, 2, none⟩) (by first | assumption | (simp [go_sem]; done) | (simp [go_sem]; omega))).trans hR.2.2.2.2.2.2.2.2.1, (h.cell (p := ⟨bm, om + k, none⟩) (by first | assumption | (simp [go_sem]; done) | (simp [go_sem]; omega))).trans hR.2.2.2.2.2.2.2.2.2⟩ : W.cell? ⟨w.heap.size, 0, none⟩ = some (.slice A n c) ∧ W.cell? ⟨w.heap.size, 1, none⟩ = some (.slice B m d) ∧ W.cell? ⟨w.heap.size, 2, none⟩ = some (.int .i64 q0) ∧ W.cell? ⟨w.heap.size, 3, none⟩ = some (.int .i64 q1) ∧ W.cell? ⟨w.heap.size, 4, none⟩ = some (.int .i64 q2) ∧ W.cell? ⟨w.heap.size, 5, none⟩ = some (.int .i64 q3) ∧ W.cell? ⟨w.heap.size + 1, 0, none⟩ = some (.slice (some ⟨bn, on, none⟩) nn nc) ∧ W.cell? ⟨w.heap.size + 1, 1, none⟩ = some (.slice (some ⟨bm, om, none⟩) nn mc) ∧ W.cell? ⟨w.heap.size + 1, 2, none⟩ = some (.bool late) ∧ W.cell? ⟨bm, om + k, none⟩ = some (.int .i64 mk))
      clear hR
      have fn1 := ((by repeat (first | exact Below.refl _ _ | assumption | refine bExt ?_ _ | refine bAlloc ?_ _ | refine bDrewN ?_ _ | refine bDrew ?_ | refine bSet ?_ (by first | exact Nat.le_refl _ | omega | (simp; done) | (simp; omega)) _) : Below w.heap.size w (ext ((w.alloc (.cells #[.slice A n c, .slice B m d, .int .i64 q0, .int .i64 q1, .int .i64 q2, .int .i64 q3] 40)).alloc (.cells #[.slice (some ⟨bn, on, none⟩) nn nc, .slice (some ⟨bm, om, none⟩) nn mc, .bool late] 87)) y)).cell (p := ⟨bn, on + k, none⟩) hbn).trans hcnk
      have fm1 := ((by repeat (first | exact Below.refl _ _ | assumption | refine bExt ?_ _ | refine bAlloc ?_ _ | refine bDrewN ?_ _ | refine bDrew ?_ | refine bSet ?_ (by first | exact Nat.le_refl _ | omega | (simp; done) | (simp; omega)) _) : Below w.heap.size w (ext ((w.alloc (.cells #[.slice A n c, .slice B m d, .int .i64 q0, .int .i64 q1, .int .i64 q2, .int .i64 q3] 40)).alloc (.cells #[.slice (some ⟨bn, on, none⟩) nn nc, .slice (some ⟨bm, om, none⟩) nn mc, .bool late] 87)) y)).cell (p := ⟨bm, om + k, none⟩) hbm).trans hcmk
      go_wp2
      go_region_held3 (fun w' => w'.cell? ⟨w.heap.size, 0, none⟩ = some (.slice A n c) ∧ w'.cell? ⟨w.heap.size, 1, none⟩ = some (.slice B m d) ∧ w'.cell? ⟨w.heap.size, 2, none⟩ = some (.int .i64 q0) ∧ w'.cell? ⟨w.heap.size, 3, none⟩ = some (.int .i64 q1) ∧ w'.cell? ⟨w.heap.size, 4, none⟩ = some (.int .i64 q2) ∧ w'.cell? ⟨w.heap.size, 5, none⟩ = some (.int .i64 q3) ∧ w'.cell? ⟨w.heap.size + 1, 0, none⟩ = some (.slice (some ⟨bn, on, none⟩) nn nc) ∧ w'.cell? ⟨w.heap.size + 1, 1, none⟩ = some (.slice (some ⟨bm, om, none⟩) nn mc) ∧ w'.cell? ⟨w.heap.size + 1, 2, none⟩ = some (.bool late) ∧ w'.cell? ⟨bm, om + k, none⟩ = some (.int .i64 mk)) (exact hS _ (by repeat (first | exact Below.refl _ _ | assumption | refine bExt ?_ _ | refine bAlloc ?_ _ | refine bDrewN ?_ _ | refine bDrew ?_ | refine bSet ?_ (by first | exact Nat.le_refl _ | omega | (simp; done) | (simp; omega)) _))) (first | (go_at_call 115; ((with_reducible refine (cs _ (by repeat (first | exact Below.refl _ _ | assumption | refine bExt ?_ _ | refine bAlloc ?_ _ | refine bDrewN ?_ _ | refine bDrew ?_ | refine bSet ?_ (by first | exact Nat.le_refl _ | omega | (simp; done) | (simp; omega)) _))).mono ?_); rintro e w' ⟨rfl, y3, rfl⟩)) | (go_at_call 103; ((with_reducible refine (l1MostU_any s v _).mono ?_); rintro e w' ⟨rfl, rfl⟩)))
      go_wp2
      go_roundw
      case rel => exact ⟨k + 1, _, by omega, by go_num, by rw [HS.out], (ext_ex (by repeat (first | exact Below.refl _ _ | assumption | refine bExt ?_ _ | refine bAlloc ?_ _ | refine bDrewN ?_ _ | refine bDrew ?_ | refine bSet ?_ (by first | exact Nat.le_refl _ | omega | (simp; done) | (simp; omega)) _))).choose_spec⟩
      case measure => simp [intOf]; omega
    · obtain rfl : k = nn := by omega
      go_wp2
      go_ret
      exact ⟨ret_int HV.out, ext_ex (by repeat (first | exact Below.refl _ _ | assumption | refine bExt ?_ _ | refine bAlloc ?_ _ | refine bDrewN ?_ _ | refine bDrew ?_ | refine bSet ?_ (by first | exact Nat.le_refl _ | omega | (simp; done) | (simp; omega)) _))⟩
theorem unitOf_any (w : World) (A B : Option Addr) (n m c d : Nat) (els : List El) (q0 q1 q2 q3 : Int) (NA MA : Option Addr) (nn nc mn mc : Nat) (it : It) (ha : RdEl w A n els) (hn : n ≤ 1099511627776) (hC : CodeG els q0 q1 q2) (hN : RdT w NA nn it.1) (hM : RdI w MA mn it.2.1) (hI : ItG els it) :
    Calls Tryz.prog 95 #[.agg #[.slice A n c, .slice B m d, .int .i64 q0, .int .i64 q1, .int .i64 q2, .int .i64 q3], .agg #[.slice NA nn nc, .slice MA mn mc, .bool it.2.2]] w fun e w' => e = .returned (.int .i64 (unitV els q2 it)) ∧ ∃ y, w' = ext w y := by
  have Hn := Lib.hid hN.len
  have hI1 := hI.1
  rw [Hn.out] at hI1
  have cw := fun W (h : Below w.heap.size w W) => worths_any W A B n m c d els q0 q1 q2 q3 NA MA nn nc mn mc it (ha.below h) hn hC (hN.below h) (hM.below h) hI
  have HV : Hid (Lib.maxOf (wTo els q2 it nn) = unitV els q2 it) := by unfold Hid unitV; rw [Hn.out]
  have hln := wTo_len els q2 it nn
  obtain ⟨late, hlate⟩ : ∃ l, it.2.2 = l := ⟨_, rfl⟩
  rw [hlate] at cw ⊢
  clear hlate
  generalize wTo els q2 it nn = l at *
  go_enter Tryz.func95, Tryz.ntmps95
  go_wp2_with (first | (go_at_call 124; ((with_reducible refine (cw _ (by repeat (first | exact Below.refl _ _ | assumption | refine bExt ?_ _ | refine bAlloc ?_ _ | refine bDrewN ?_ _ | refine bDrew ?_ | refine bSet ?_ (by first | exact Nat.le_refl _ | omega | (simp; done) | (simp; omega)) _))).mono ?_); rintro e w' ⟨A1, n1, c1, x1, rfl, rfl, o1⟩; (obtain rfl : n1 = nn := o1.len.symm.trans hln))) | (go_at_call 125; ((with_reducible refine (maxInts_any _ _ _ _ _ o1.rd (by omega) (by omega)).mono ?_); rintro e w' ⟨rfl, rfl⟩)))
  go_ret
  exact ⟨ret_int HV.out, ext_ex (by repeat (first | exact Below.refl _ _ | assumption | refine bExt ?_ _ | refine bAlloc ?_ _ | refine bDrewN ?_ _ | refine bDrew ?_ | refine bSet ?_ (by first | exact Nat.le_refl _ | omega | (simp; done) | (simp; omega)) _))⟩
end Go.Proofs.YtfmidngndddfiaaGreatDoor
