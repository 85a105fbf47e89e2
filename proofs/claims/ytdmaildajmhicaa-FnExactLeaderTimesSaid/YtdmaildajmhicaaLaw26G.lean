/- The law FnExactLeaderTimes returns true for every input. Conditions: none. -/
import Derived.Test.YtdmaildajmhicaaCues6
import Derived.Test.YtdmaildajmhicaaLiftSlots
import Derived.Deep.RegionHeld3
set_option linter.unusedVariables false
set_option linter.unusedSimpArgs false
set_option maxRecDepth 100000
namespace Go.Proofs.Ytdmaildajmhicaa
open Go.ChangeShapes Go.WideShapes Go.ChangeAt Go.RowKit
set_option maxHeartbeats 1000000 in
theorem law_LeaderTimes (w : World) (L0 : Option Addr) (n0 cl0 : Nat) (l0 : List (Int × Int)) (ha0 : RdS w L0 n0 l0) (hm0 : n0 ≤ 9223372036854775807) (d1_0 d1_1 d1_2 d1_3 : Int) (L2 : Option Addr) (n2 cl2 : Nat) (l2 : List Int) (ha2 : RdI w L2 n2 l2) (hm2 : n2 ≤ 9223372036854775807) :
    Calls Try.prog 10 #[.slice L0 n0 cl0, .agg #[.int .i64 d1_0, .int .i64 d1_1, .int .i64 d1_2, .int .i64 d1_3], .slice L2 n2 cl2] w fun e w' => e = .returned (.bool true) ∧ Below w.heap.size w w' := by
  by_cases hs0 : (1048576 : Int) < n2
  · go_enter Try.func10, Try.ntmps10
    go_wp2_with fail
    go_ret
    exact ⟨rfl, by repeat (first | exact Below.refl _ _ | assumption | refine bExt ?_ _ | refine bAlloc ?_ _ | refine bDrewN ?_ _ | refine bDrew ?_ | refine bSet ?_ (by first | exact Nat.le_refl _ | omega | (simp; done) | (simp; omega)) _)⟩
  by_cases hs1 : (1048576 : Int) < n0
  · go_enter Try.func10, Try.ntmps10
    go_wp2_with fail
    refine (szSlotS_any _ _ _ _ _ (by omega) (by omega) hm0).mono ?_
    rintro e w1 ⟨rfl, rfl⟩
    rw [if_pos (by omega)]
    go_wp2_with fail
    go_ret
    exact ⟨rfl, by repeat (first | exact Below.refl _ _ | assumption | refine bExt ?_ _ | refine bAlloc ?_ _ | refine bDrewN ?_ _ | refine bDrew ?_ | refine bSet ?_ (by first | exact Nat.le_refl _ | omega | (simp; done) | (simp; omega)) _)⟩
  have hn0 : n0 ≤ 1099511627776 := by omega
  have hl0 : l0.length ≤ 1048576 := by have := ha0.len; omega
  have hn2 : n2 ≤ 1099511627776 := by omega
  have hl2 : l2.length ≤ 1048576 := by have := ha2.len; omega
  have hr0 : (ltV l0 d1_0 d1_1 d1_2 d1_3 l2).length ≤ 1048576 := Nat.le_trans (ltV_len _ _ _ _ _ _) (by omega)
  have hd1 : ¬ (1048576 : Int) - n0 < 0 := by omega
  go_enter Try.func10, Try.ntmps10
  go_wp2_with fail
  refine (szSlotS_any _ _ _ _ _ (by omega) (by omega) hm0).mono ?_
  rintro e w1 ⟨rfl, rfl⟩
  rw [if_neg (by omega)]
  go_wp2_with fail
  go_region_held3 (fun w' => w'.cell? ⟨w.heap.size, 0, none⟩ = some (.int .i64 d1_0) ∧ w'.cell? ⟨w.heap.size, 1, none⟩ = some (.int .i64 d1_1) ∧ w'.cell? ⟨w.heap.size, 2, none⟩ = some (.int .i64 d1_2) ∧ w'.cell? ⟨w.heap.size, 3, none⟩ = some (.int .i64 d1_3)) (refine ⟨?_, ?_, ?_, ?_⟩ <;> simp [go_sem])
    (first
      | (go_at_call 14; ((with_reducible refine (toSlotS_any _ _ _ _ _ (ha0.below (by repeat (first | exact Below.refl _ _ | assumption | refine bExt ?_ _ | refine bAlloc ?_ _ | refine bDrewN ?_ _ | refine bDrew ?_ | refine bSet ?_ (by first | exact Nat.le_refl _ | omega | (simp; done) | (simp; omega)) _))) (hn0)).mono ?_); rintro e w' ⟨A1, n_1, c1, x1, rfl, rfl, o1⟩))
      | (go_at_call 15; ((with_reducible refine (toDay_any _ _ _ _ _).mono ?_); rintro e w' ⟨rfl, x2, rfl⟩))
      | (go_at_call 28; ((with_reducible refine (toIntS_any _ _ _ _ _ (ha2.below (by repeat (first | exact Below.refl _ _ | assumption | refine bExt ?_ _ | refine bAlloc ?_ _ | refine bDrewN ?_ _ | refine bDrew ?_ | refine bSet ?_ (by first | exact Nat.le_refl _ | omega | (simp; done) | (simp; omega)) _))) (hn2)).mono ?_); rintro e w' ⟨A3, n_3, c3, x3, rfl, rfl, o3⟩))
      | (go_at_call 39; ((with_reducible refine (specLeaderTimes_any _ _ _ _ _ _ _ _ _ _ _ _ _ (o1.rd.below (by repeat (first | exact Below.refl _ _ | assumption | refine bExt ?_ _ | refine bAlloc ?_ _ | refine bDrewN ?_ _ | refine bDrew ?_ | refine bSet ?_ (by first | exact Nat.le_refl _ | omega | (simp; done) | (simp; omega)) _))) (bdS o1 hl0) (o3.rd.below (by repeat (first | exact Below.refl _ _ | assumption | refine bExt ?_ _ | refine bAlloc ?_ _ | refine bDrewN ?_ _ | refine bDrew ?_ | refine bSet ?_ (by first | exact Nat.le_refl _ | omega | (simp; done) | (simp; omega)) _))) (bdI o3 hl2)).mono ?_); rintro e w' ⟨Ar4, nr4, cr4, xr4, rfl, rfl, or4⟩)))
  go_wp2_with fail
  refine (toSlotS_any _ _ _ _ _ (ha0.below (by repeat (first | exact Below.refl _ _ | assumption | refine bExt ?_ _ | refine bAlloc ?_ _ | refine bDrewN ?_ _ | refine bDrew ?_ | refine bSet ?_ (by first | exact Nat.le_refl _ | omega | (simp; done) | (simp; omega)) _))) (hn0)).mono ?_
  rintro e w1 ⟨A5, n_5, c5, x5, rfl, rfl, o5⟩
  go_wp2_with fail
  refine (toIntS_any _ _ _ _ _ (ha2.below (by repeat (first | exact Below.refl _ _ | assumption | refine bExt ?_ _ | refine bAlloc ?_ _ | refine bDrewN ?_ _ | refine bDrew ?_ | refine bSet ?_ (by first | exact Nat.le_refl _ | omega | (simp; done) | (simp; omega)) _))) (hn2)).mono ?_
  rintro e w1 ⟨A6, n_6, c6, x6, rfl, rfl, o6⟩
  go_wp2_with fail
  refine (toDay_any _ _ _ _ _).mono ?_
  rintro e w1 ⟨rfl, x7, rfl⟩
  go_wp2_with fail
  refine (implLeaderTimes_any _ _ _ _ _ _ _ _ _ _ _ _ _ (o5.rd.below (by repeat (first | exact Below.refl _ _ | assumption | refine bExt ?_ _ | refine bAlloc ?_ _ | refine bDrewN ?_ _ | refine bDrew ?_ | refine bSet ?_ (by first | exact Nat.le_refl _ | omega | (simp; done) | (simp; omega)) _))) (bdS o5 hl0) (o6.rd.below (by repeat (first | exact Below.refl _ _ | assumption | refine bExt ?_ _ | refine bAlloc ?_ _ | refine bDrewN ?_ _ | refine bDrew ?_ | refine bSet ?_ (by first | exact Nat.le_refl _ | omega | (simp; done) | (simp; omega)) _))) (bdI o6 hl2) (o5.cap_.1)).mono ?_
  rintro e w1 ⟨Ar8, nr8, cr8, xr8, rfl, rfl, or8⟩
  go_wp2_with fail
  refine (eqIntS_any _ _ _ _ _ _ _ _ _ (or8.rd.below (by repeat (first | exact Below.refl _ _ | assumption | refine bExt ?_ _ | refine bAlloc ?_ _ | refine bDrewN ?_ _ | refine bDrew ?_ | refine bSet ?_ (by first | exact Nat.le_refl _ | omega | (simp; done) | (simp; omega)) _))) (or4.rd.below (by repeat (first | exact Below.refl _ _ | assumption | refine bExt ?_ _ | refine bAlloc ?_ _ | refine bDrewN ?_ _ | refine bDrew ?_ | refine bSet ?_ (by first | exact Nat.le_refl _ | omega | (simp; done) | (simp; omega)) _))) (bdI or8 hr0)).mono ?_
  rintro e w1 ⟨rfl, x9, rfl⟩
  go_wp2_with fail
  refine (toSlotS_any _ _ _ _ _ (ha0.below (by repeat (first | exact Below.refl _ _ | assumption | refine bExt ?_ _ | refine bAlloc ?_ _ | refine bDrewN ?_ _ | refine bDrew ?_ | refine bSet ?_ (by first | exact Nat.le_refl _ | omega | (simp; done) | (simp; omega)) _))) (hn0)).mono ?_
  rintro e w1 ⟨A10, n_10, c10, x10, rfl, rfl, o10⟩
  go_wp2_with fail
  refine (eqSlotS_any _ _ _ _ _ _ _ _ (o5.rd.below (by repeat (first | exact Below.refl _ _ | assumption | refine bExt ?_ _ | refine bAlloc ?_ _ | refine bDrewN ?_ _ | refine bDrew ?_ | refine bSet ?_ (by first | exact Nat.le_refl _ | omega | (simp; done) | (simp; omega)) _))) (o10.rd.below (by repeat (first | exact Below.refl _ _ | assumption | refine bExt ?_ _ | refine bAlloc ?_ _ | refine bDrewN ?_ _ | refine bDrew ?_ | refine bSet ?_ (by first | exact Nat.le_refl _ | omega | (simp; done) | (simp; omega)) _))) (bdS o5 hl0)).mono ?_
  rintro e w1 ⟨rfl, x11, rfl⟩
  go_wp2_with fail
  refine (toIntS_any _ _ _ _ _ (ha2.below (by repeat (first | exact Below.refl _ _ | assumption | refine bExt ?_ _ | refine bAlloc ?_ _ | refine bDrewN ?_ _ | refine bDrew ?_ | refine bSet ?_ (by first | exact Nat.le_refl _ | omega | (simp; done) | (simp; omega)) _))) (hn2)).mono ?_
  rintro e w1 ⟨A12, n_12, c12, x12, rfl, rfl, o12⟩
  go_wp2_with fail
  refine (eqIntS_any _ _ _ _ _ _ _ _ _ (o6.rd.below (by repeat (first | exact Below.refl _ _ | assumption | refine bExt ?_ _ | refine bAlloc ?_ _ | refine bDrewN ?_ _ | refine bDrew ?_ | refine bSet ?_ (by first | exact Nat.le_refl _ | omega | (simp; done) | (simp; omega)) _))) (o12.rd.below (by repeat (first | exact Below.refl _ _ | assumption | refine bExt ?_ _ | refine bAlloc ?_ _ | refine bDrewN ?_ _ | refine bDrew ?_ | refine bSet ?_ (by first | exact Nat.le_refl _ | omega | (simp; done) | (simp; omega)) _))) (bdI o6 hl2)).mono ?_
  rintro e w1 ⟨rfl, x13, rfl⟩
  have hb14 := bdS o5 hl0
  have hv14 : n_5 ≤ 1048576 := by have h1 := o5.len; have h2 := hl0; omega
  go_wp2_with fail
  refine (markSlotS_any _ _ _ _ _ _ _ (o5.below (by repeat (first | exact Below.refl _ _ | assumption | refine bExt ?_ _ | refine bAlloc ?_ _ | refine bDrewN ?_ _ | refine bDrew ?_ | refine bSet ?_ (by first | exact Nat.le_refl _ | omega | (simp; done) | (simp; omega)) _))) (hb14) (by omega) (by omega)).mono ?_
  rintro e wm14 ⟨rfl, om14, hg14⟩
  have hB14 : Below (w.alloc (.cells #[.int .i64 d1_0, .int .i64 d1_1, .int .i64 d1_2, .int .i64 d1_3] 24)).heap.size (w.alloc (.cells #[.int .i64 d1_0, .int .i64 d1_1, .int .i64 d1_2, .int .i64 d1_3] 24)) wm14 := below_grown (by repeat (first | exact Below.refl _ _ | assumption | refine bExt ?_ _ | refine bAlloc ?_ _ | refine bDrewN ?_ _ | refine bDrew ?_ | refine bSet ?_ (by first | exact Nat.le_refl _ | omega | (simp; done) | (simp; omega)) _)) hg14 (fun g hg => Nat.le_trans (base_le (by repeat (first | exact Below.refl _ _ | assumption | refine bExt ?_ _ | refine bAlloc ?_ _ | refine bDrewN ?_ _ | refine bDrew ?_ | refine bSet ?_ (by first | exact Nat.le_refl _ | omega | (simp; done) | (simp; omega)) _))) (o5.blk hg).1)
  have ok14_w0 := (or4.below (by repeat (first | exact Below.refl _ _ | assumption | refine bExt ?_ _ | refine bAlloc ?_ _ | refine bDrewN ?_ _ | refine bDrew ?_ | refine bSet ?_ (by first | exact Nat.le_refl _ | omega | (simp; done) | (simp; omega)) _))).kept hg14 (ne_before (or4.below (by repeat (first | exact Below.refl _ _ | assumption | refine bExt ?_ _ | refine bAlloc ?_ _ | refine bDrewN ?_ _ | refine bDrew ?_ | refine bSet ?_ (by first | exact Nat.le_refl _ | omega | (simp; done) | (simp; omega)) _))) o5)
  have ok14_x2 := (o6.below (by repeat (first | exact Below.refl _ _ | assumption | refine bExt ?_ _ | refine bAlloc ?_ _ | refine bDrewN ?_ _ | refine bDrew ?_ | refine bSet ?_ (by first | exact Nat.le_refl _ | omega | (simp; done) | (simp; omega)) _))).kept hg14 (ne_after (o5.below (by repeat (first | exact Below.refl _ _ | assumption | refine bExt ?_ _ | refine bAlloc ?_ _ | refine bDrewN ?_ _ | refine bDrew ?_ | refine bSet ?_ (by first | exact Nat.le_refl _ | omega | (simp; done) | (simp; omega)) _))) o6)
  have ok14_g0 := (or8.below (by repeat (first | exact Below.refl _ _ | assumption | refine bExt ?_ _ | refine bAlloc ?_ _ | refine bDrewN ?_ _ | refine bDrew ?_ | refine bSet ?_ (by first | exact Nat.le_refl _ | omega | (simp; done) | (simp; omega)) _))).kept hg14 (ne_after (o5.below (by repeat (first | exact Below.refl _ _ | assumption | refine bExt ?_ _ | refine bAlloc ?_ _ | refine bDrewN ?_ _ | refine bDrew ?_ | refine bSet ?_ (by first | exact Nat.le_refl _ | omega | (simp; done) | (simp; omega)) _))) or8)
  obtain ⟨y14, rfl⟩ := ext_ex hB14
  clear hg14
  have hb15 := bdI ok14_x2 hl2
  have hv15 : n_6 ≤ 1048576 := by have h1 := ok14_x2.len; have h2 := hl2; omega
  go_wp2_with fail
  refine (markIntS_any _ _ _ _ _ _ _ (ok14_x2.below (by repeat (first | exact Below.refl _ _ | assumption | refine bExt ?_ _ | refine bAlloc ?_ _ | refine bDrewN ?_ _ | refine bDrew ?_ | refine bSet ?_ (by first | exact Nat.le_refl _ | omega | (simp; done) | (simp; omega)) _))) (hb15) (by omega) (by omega)).mono ?_
  rintro e wm15 ⟨rfl, om15, hg15⟩
  have hB15 : Below (w.alloc (.cells #[.int .i64 d1_0, .int .i64 d1_1, .int .i64 d1_2, .int .i64 d1_3] 24)).heap.size (w.alloc (.cells #[.int .i64 d1_0, .int .i64 d1_1, .int .i64 d1_2, .int .i64 d1_3] 24)) wm15 := below_grown (by repeat (first | exact Below.refl _ _ | assumption | refine bExt ?_ _ | refine bAlloc ?_ _ | refine bDrewN ?_ _ | refine bDrew ?_ | refine bSet ?_ (by first | exact Nat.le_refl _ | omega | (simp; done) | (simp; omega)) _)) hg15 (fun g hg => Nat.le_trans (base_le (by repeat (first | exact Below.refl _ _ | assumption | refine bExt ?_ _ | refine bAlloc ?_ _ | refine bDrewN ?_ _ | refine bDrew ?_ | refine bSet ?_ (by first | exact Nat.le_refl _ | omega | (simp; done) | (simp; omega)) _))) (o6.blk hg).1)
  have ok15_w0 := (ok14_w0.below (by repeat (first | exact Below.refl _ _ | assumption | refine bExt ?_ _ | refine bAlloc ?_ _ | refine bDrewN ?_ _ | refine bDrew ?_ | refine bSet ?_ (by first | exact Nat.le_refl _ | omega | (simp; done) | (simp; omega)) _))).kept hg15 (ne_before (or4.below (by repeat (first | exact Below.refl _ _ | assumption | refine bExt ?_ _ | refine bAlloc ?_ _ | refine bDrewN ?_ _ | refine bDrew ?_ | refine bSet ?_ (by first | exact Nat.le_refl _ | omega | (simp; done) | (simp; omega)) _))) o6)
  have ok15_x0 := (om14.below (by repeat (first | exact Below.refl _ _ | assumption | refine bExt ?_ _ | refine bAlloc ?_ _ | refine bDrewN ?_ _ | refine bDrew ?_ | refine bSet ?_ (by first | exact Nat.le_refl _ | omega | (simp; done) | (simp; omega)) _))).kept hg15 (ne_before (o5.below (by repeat (first | exact Below.refl _ _ | assumption | refine bExt ?_ _ | refine bAlloc ?_ _ | refine bDrewN ?_ _ | refine bDrew ?_ | refine bSet ?_ (by first | exact Nat.le_refl _ | omega | (simp; done) | (simp; omega)) _))) o6)
  have ok15_g0 := (ok14_g0.below (by repeat (first | exact Below.refl _ _ | assumption | refine bExt ?_ _ | refine bAlloc ?_ _ | refine bDrewN ?_ _ | refine bDrew ?_ | refine bSet ?_ (by first | exact Nat.le_refl _ | omega | (simp; done) | (simp; omega)) _))).kept hg15 (ne_after (o6.below (by repeat (first | exact Below.refl _ _ | assumption | refine bExt ?_ _ | refine bAlloc ?_ _ | refine bDrewN ?_ _ | refine bDrew ?_ | refine bSet ?_ (by first | exact Nat.le_refl _ | omega | (simp; done) | (simp; omega)) _))) or8)
  obtain ⟨y15, rfl⟩ := ext_ex hB15
  clear hg15
  have hp16 : ¬ (1 + 2 * n_5 + n_6 : Int) < 0 := by omega
  go_wp2_with fail
  refine (eqIntS_any _ _ _ _ _ _ _ _ _ (ok15_g0.rd.below (by repeat (first | exact Below.refl _ _ | assumption | refine bExt ?_ _ | refine bAlloc ?_ _ | refine bDrewN ?_ _ | refine bDrew ?_ | refine bSet ?_ (by first | exact Nat.le_refl _ | omega | (simp; done) | (simp; omega)) _))) (ok15_w0.rd.below (by repeat (first | exact Below.refl _ _ | assumption | refine bExt ?_ _ | refine bAlloc ?_ _ | refine bDrewN ?_ _ | refine bDrew ?_ | refine bSet ?_ (by first | exact Nat.le_refl _ | omega | (simp; done) | (simp; omega)) _))) (bdI ok15_g0 hr0)).mono ?_
  rintro e w1 ⟨rfl, x17, rfl⟩
  have hb18 := bdI ok15_g0 hr0
  have hv18 : nr8 ≤ 1048576 := by have h1 := ok15_g0.len; have h2 := hr0; omega
  go_wp2_with fail
  refine (markIntS_any _ _ _ _ _ _ _ (ok15_g0.below (by repeat (first | exact Below.refl _ _ | assumption | refine bExt ?_ _ | refine bAlloc ?_ _ | refine bDrewN ?_ _ | refine bDrew ?_ | refine bSet ?_ (by first | exact Nat.le_refl _ | omega | (simp; done) | (simp; omega)) _))) (hb18) (by omega) (by omega)).mono ?_
  rintro e wm18 ⟨rfl, om18, hg18⟩
  have hB18 : Below (w.alloc (.cells #[.int .i64 d1_0, .int .i64 d1_1, .int .i64 d1_2, .int .i64 d1_3] 24)).heap.size (w.alloc (.cells #[.int .i64 d1_0, .int .i64 d1_1, .int .i64 d1_2, .int .i64 d1_3] 24)) wm18 := below_grown (by repeat (first | exact Below.refl _ _ | assumption | refine bExt ?_ _ | refine bAlloc ?_ _ | refine bDrewN ?_ _ | refine bDrew ?_ | refine bSet ?_ (by first | exact Nat.le_refl _ | omega | (simp; done) | (simp; omega)) _)) hg18 (fun g hg => Nat.le_trans (base_le (by repeat (first | exact Below.refl _ _ | assumption | refine bExt ?_ _ | refine bAlloc ?_ _ | refine bDrewN ?_ _ | refine bDrew ?_ | refine bSet ?_ (by first | exact Nat.le_refl _ | omega | (simp; done) | (simp; omega)) _))) (or8.blk hg).1)
  have ok18_w0 := (ok15_w0.below (by repeat (first | exact Below.refl _ _ | assumption | refine bExt ?_ _ | refine bAlloc ?_ _ | refine bDrewN ?_ _ | refine bDrew ?_ | refine bSet ?_ (by first | exact Nat.le_refl _ | omega | (simp; done) | (simp; omega)) _))).kept hg18 (ne_before (or4.below (by repeat (first | exact Below.refl _ _ | assumption | refine bExt ?_ _ | refine bAlloc ?_ _ | refine bDrewN ?_ _ | refine bDrew ?_ | refine bSet ?_ (by first | exact Nat.le_refl _ | omega | (simp; done) | (simp; omega)) _))) or8)
  have ok18_x0 := (ok15_x0.below (by repeat (first | exact Below.refl _ _ | assumption | refine bExt ?_ _ | refine bAlloc ?_ _ | refine bDrewN ?_ _ | refine bDrew ?_ | refine bSet ?_ (by first | exact Nat.le_refl _ | omega | (simp; done) | (simp; omega)) _))).kept hg18 (ne_before (o5.below (by repeat (first | exact Below.refl _ _ | assumption | refine bExt ?_ _ | refine bAlloc ?_ _ | refine bDrewN ?_ _ | refine bDrew ?_ | refine bSet ?_ (by first | exact Nat.le_refl _ | omega | (simp; done) | (simp; omega)) _))) or8)
  have ok18_x2 := (om15.below (by repeat (first | exact Below.refl _ _ | assumption | refine bExt ?_ _ | refine bAlloc ?_ _ | refine bDrewN ?_ _ | refine bDrew ?_ | refine bSet ?_ (by first | exact Nat.le_refl _ | omega | (simp; done) | (simp; omega)) _))).kept hg18 (ne_before (o6.below (by repeat (first | exact Below.refl _ _ | assumption | refine bExt ?_ _ | refine bAlloc ?_ _ | refine bDrewN ?_ _ | refine bDrew ?_ | refine bSet ?_ (by first | exact Nat.le_refl _ | omega | (simp; done) | (simp; omega)) _))) or8)
  obtain ⟨y18, rfl⟩ := ext_ex hB18
  clear hg18
  go_wp2_with fail
  refine (heldIntS_any _ _ _ _ _ _ (om18.rd.below (by repeat (first | exact Below.refl _ _ | assumption | refine bExt ?_ _ | refine bAlloc ?_ _ | refine bDrewN ?_ _ | refine bDrew ?_ | refine bSet ?_ (by first | exact Nat.le_refl _ | omega | (simp; done) | (simp; omega)) _))) (hb18) (by omega) (by omega) rfl).mono ?_
  rintro e w1 ⟨rfl, rfl⟩
  have hp20 : ¬ (1 + nr8 : Int) < 0 := by omega
  go_wp2_with fail
  go_region_held3 (fun w' => w'.cell? ⟨w.heap.size, 0, none⟩ = some (.int .i64 d1_0) ∧ w'.cell? ⟨w.heap.size, 1, none⟩ = some (.int .i64 d1_1) ∧ w'.cell? ⟨w.heap.size, 2, none⟩ = some (.int .i64 d1_2) ∧ w'.cell? ⟨w.heap.size, 3, none⟩ = some (.int .i64 d1_3)) (refine ⟨?_, ?_, ?_, ?_⟩ <;> simp [go_sem])
    (first
      | (go_at_call 14; ((with_reducible refine (toSlotS_any _ _ _ _ _ (ha0.below (by repeat (first | exact Below.refl _ _ | assumption | refine bExt ?_ _ | refine bAlloc ?_ _ | refine bDrewN ?_ _ | refine bDrew ?_ | refine bSet ?_ (by first | exact Nat.le_refl _ | omega | (simp; done) | (simp; omega)) _))) (hn0)).mono ?_); rintro e w' ⟨A21, n_21, c21, x21, rfl, rfl, o21⟩))
      | (go_at_call 15; ((with_reducible refine (toDay_any _ _ _ _ _).mono ?_); rintro e w' ⟨rfl, x22, rfl⟩))
      | (go_at_call 28; ((with_reducible refine (toIntS_any _ _ _ _ _ (ha2.below (by repeat (first | exact Below.refl _ _ | assumption | refine bExt ?_ _ | refine bAlloc ?_ _ | refine bDrewN ?_ _ | refine bDrew ?_ | refine bSet ?_ (by first | exact Nat.le_refl _ | omega | (simp; done) | (simp; omega)) _))) (hn2)).mono ?_); rintro e w' ⟨A23, n_23, c23, x23, rfl, rfl, o23⟩))
      | (go_at_call 40; ((with_reducible refine (implLeaderTimes_any _ _ _ _ _ _ _ _ _ _ _ _ _ (o21.rd.below (by repeat (first | exact Below.refl _ _ | assumption | refine bExt ?_ _ | refine bAlloc ?_ _ | refine bDrewN ?_ _ | refine bDrew ?_ | refine bSet ?_ (by first | exact Nat.le_refl _ | omega | (simp; done) | (simp; omega)) _))) (bdS o21 hl0) (o23.rd.below (by repeat (first | exact Below.refl _ _ | assumption | refine bExt ?_ _ | refine bAlloc ?_ _ | refine bDrewN ?_ _ | refine bDrew ?_ | refine bSet ?_ (by first | exact Nat.le_refl _ | omega | (simp; done) | (simp; omega)) _))) (bdI o23 hl2) (o21.cap_.1)).mono ?_); rintro e w' ⟨Ar24, nr24, cr24, xr24, rfl, rfl, or24⟩)))
  go_wp2_with fail
  refine (eqIntS_any _ _ _ _ _ _ _ _ _ (or24.rd.below (by repeat (first | exact Below.refl _ _ | assumption | refine bExt ?_ _ | refine bAlloc ?_ _ | refine bDrewN ?_ _ | refine bDrew ?_ | refine bSet ?_ (by first | exact Nat.le_refl _ | omega | (simp; done) | (simp; omega)) _))) (ok18_w0.rd.below (by repeat (first | exact Below.refl _ _ | assumption | refine bExt ?_ _ | refine bAlloc ?_ _ | refine bDrewN ?_ _ | refine bDrew ?_ | refine bSet ?_ (by first | exact Nat.le_refl _ | omega | (simp; done) | (simp; omega)) _))) (bdI or24 hr0)).mono ?_
  rintro e w1 ⟨rfl, x25, rfl⟩
  go_wp2_with fail
  refine (heldIntS_any _ _ _ _ _ _ (om18.rd.below (by repeat (first | exact Below.refl _ _ | assumption | refine bExt ?_ _ | refine bAlloc ?_ _ | refine bDrewN ?_ _ | refine bDrew ?_ | refine bSet ?_ (by first | exact Nat.le_refl _ | omega | (simp; done) | (simp; omega)) _))) (hb18) (by omega) (by omega) rfl).mono ?_
  rintro e w1 ⟨rfl, rfl⟩
  have hp27 : ¬ (1 + nr8 : Int) < 0 := by omega
  go_wp2_with fail
  go_ret
  exact ⟨rfl, by repeat (first | exact Below.refl _ _ | assumption | refine bExt ?_ _ | refine bAlloc ?_ _ | refine bDrewN ?_ _ | refine bDrew ?_ | refine bSet ?_ (by first | exact Nat.le_refl _ | omega | (simp; done) | (simp; omega)) _)⟩
set_option maxRecDepth 100000 in
theorem fnExactLeaderTimes_lifted (os : Os) (started : os.Started) (H : Type) (enc : TypeId × Value → H) :
    ReturnsInHanded {} Try.checked os 10 .any (Rows.fnExactLeaderTimesSpec.pre6 enc Try.prog Try.f10 Rows.fnExactLeaderTimesRow.domain false) (Rows.fnExactLeaderTimesSpec.post enc Try.prog Try.f10 false true false false) := by
  refine returnsInHanded_of_change (C := Try.checked) ownKnobNone started (by kernel_rfl) Try.func10
    (ChangeSpec.witness6 (enc := enc) (C := Try.checked) false ⟨#[], #[.slice none 0 0, .agg #[.int .i64 0, .int .i64 0, .int .i64 0, .int .i64 0], .slice none 0 0], []⟩ 8 (by kernel_rfl) (by kernel_rfl) (by kernel_rfl) (by kernel_rfl)) ?_
  intro W base args ds gs before hval0 hW hcnd _
  have hval : ∀ (j : Nat) t v, Try.f10.params[j]? = some t → args[j]? = some v → Value.okWide Try.prog W .any base t v := hval0
  have hW' := hW
  obtain ⟨p, q, hA0, hV, rfl, hfz, hnd⟩ := hW
  have hA : DataW.TrodAll enc Try.prog W 0 (fun _ => true) true Try.f10.params.toList args.toList ds p := hA0
  have hAk := hA
  rw [Try.params10] at hA hval
  obtain ⟨v0, vs0, d0, ds0, p0, q0, hargs, rfl, rfl, h0, r0⟩ := trodAll_cons hA
  obtain ⟨v1, vs1, d1, ds1, p1, q1, rfl, rfl, rfl, h1, r1⟩ := trodAll_cons r0
  obtain ⟨v2, vs2, d2, ds2, p2, q2, rfl, rfl, rfl, h2, r2⟩ := trodAll_cons r1
  obtain ⟨rfl, rfl, rfl⟩ := trodAll_nil r2
  obtain rfl : args = #[v0, v1, v2] := by cases args; simp_all
  obtain ⟨rfl, rfl⟩ := trodVars_none hV
  obtain ⟨A0, n0, c0, l0, rfl, g0, nc0, cm0⟩ := open_RdS (hval 0 22 v0 rfl rfl) h0
  obtain ⟨c1_0, c1_1, c1_2, c1_3, y1_0, y1_1, y1_2, y1_3, m1, rfl, hd1, hp1, e1_0, e1_1, e1_2, e1_3⟩ := Go.Joins.open_agg4 Try.underlying24 (by kernel_rfl) (by kernel_rfl) (hval 1 24 v1 rfl rfl) h1
  obtain ⟨x1_0, z1_0, _, w1_0⟩ := DataW.trod_int Try.underlying3 e1_0
  simp at z1_0; subst z1_0
  have b1_0 := wfI w1_0
  obtain ⟨x1_1, z1_1, _, w1_1⟩ := DataW.trod_int Try.underlying3 e1_1
  simp at z1_1; subst z1_1
  have b1_1 := wfI w1_1
  obtain ⟨x1_2, z1_2, _, w1_2⟩ := DataW.trod_int Try.underlying3 e1_2
  simp at z1_2; subst z1_2
  have b1_2 := wfI w1_2
  obtain ⟨x1_3, z1_3, _, w1_3⟩ := DataW.trod_int Try.underlying3 e1_3
  simp at z1_3; subst z1_3
  have b1_3 := wfI w1_3
  obtain ⟨A2, n2, c2, l2, rfl, g2, nc2, cm2, b2⟩ := open_RdI (hval 2 34 v2 rfl rfl) h2
  refine (law_LeaderTimes _ _ _ _ _ g0 (by simp only [maxLen] at cm0; omega) _ _ _ _ _ _ _ _ g2 (by simp only [maxLen] at cm2; omega)).mono fun e W' hh => ?_
  obtain ⟨he, bel⟩ := hh
  subst he
  exact ⟨_, rfl, _, _, _, [], _, [], hW', trodAll_mk1 (shut_bool Try.underlying4 _), trodAll_below laidOutAll bel _ _ _ _ (by rw [tsOk, Try.params10]; kernel_rfl) hAk, rfl, bel.frame _, fun h => by cases h⟩
theorem fnExactLeaderTimes_holds : Rows.FnExactLeaderTimesSaid :=
  OpenClaim.holds_of_wide 10 Try.f10 rfl rfl rfl rfl rfl rfl rfl ⟨rfl, rfl, rfl, rfl, rfl⟩ rfl rfl rfl rfl rfl (by kernel_rfl) Try.func10 (by kernel_rfl)
    (of_decide_eq_true (by kernel_rfl)) (by unfold Func.isWrapper; first | (rw [if_pos (by decide +kernel)]; kernel_rfl) | (rw [if_neg (by decide +kernel)]; exact ⟨rfl, rfl⟩))
    (fun os started H enc _ => fnExactLeaderTimes_lifted os started H enc)
end Go.Proofs.Ytdmaildajmhicaa
