/- The law FnExactCuesOf returns true for every input. Conditions: none. -/
import Derived.Test.YtdmaildajmhicaaCues4
import Derived.Test.YtdmaildajmhicaaLiftSlots
import Derived.Deep.RegionHeld3
set_option linter.unusedVariables false
set_option linter.unusedSimpArgs false
set_option maxRecDepth 100000
namespace Go.Proofs.Ytdmaildajmhicaa
open Go.ChangeShapes Go.WideShapes Go.ChangeAt Go.RowKit
set_option maxHeartbeats 1000000 in
theorem law_CuesOf (w : World) (L0 : Option Addr) (n0 cl0 : Nat) (l0 : List (Int × Int)) (ha0 : RdS w L0 n0 l0) (hm0 : n0 ≤ 9223372036854775807) (d1_0 d1_1 d1_2 d1_3 : Int) :
    Calls Try.prog 7 #[.slice L0 n0 cl0, .agg #[.int .i64 d1_0, .int .i64 d1_1, .int .i64 d1_2, .int .i64 d1_3]] w fun e w' => e = .returned (.bool true) ∧ Below w.heap.size w w' := by
  by_cases hs0 : (1048576 : Int) < n0
  · go_enter Try.func7, Try.ntmps7
    go_wp2_with fail
    refine (szSlotS_any _ _ _ _ _ (by omega) (by omega) hm0).mono ?_
    rintro e w1 ⟨rfl, rfl⟩
    rw [if_pos (by omega)]
    go_wp2_with fail
    go_ret
    exact ⟨rfl, by repeat (first | exact Below.refl _ _ | assumption | refine bExt ?_ _ | refine bAlloc ?_ _ | refine bDrewN ?_ _ | refine bDrew ?_ | refine bSet ?_ (by first | exact Nat.le_refl _ | omega | (simp; done) | (simp; omega)) _)⟩
  have hn0 : n0 ≤ 1099511627776 := by omega
  have hl0 : l0.length ≤ 1048576 := by have := ha0.len; omega
  have hr0 : (cuV l0 d1_0 d1_1 d1_2 d1_3).length ≤ 1048576 := Nat.le_trans (cuV_len _ _ _ _ _) (by omega)
  have hd0 : ¬ (1048576 : Int) - n0 < 0 := by omega
  go_enter Try.func7, Try.ntmps7
  go_wp2_with fail
  refine (szSlotS_any _ _ _ _ _ (by omega) (by omega) hm0).mono ?_
  rintro e w1 ⟨rfl, rfl⟩
  rw [if_neg (by omega)]
  go_wp2_with fail
  go_region_held3 (fun w' => w'.cell? ⟨w.heap.size, 0, none⟩ = some (.int .i64 d1_0) ∧ w'.cell? ⟨w.heap.size, 1, none⟩ = some (.int .i64 d1_1) ∧ w'.cell? ⟨w.heap.size, 2, none⟩ = some (.int .i64 d1_2) ∧ w'.cell? ⟨w.heap.size, 3, none⟩ = some (.int .i64 d1_3)) (refine ⟨?_, ?_, ?_, ?_⟩ <;> simp [go_sem])
    (first
      | (go_at_call 14; ((with_reducible refine (toSlotS_any _ _ _ _ _ (ha0.below (by repeat (first | exact Below.refl _ _ | assumption | refine bExt ?_ _ | refine bAlloc ?_ _ | refine bDrewN ?_ _ | refine bDrew ?_ | refine bSet ?_ (by first | exact Nat.le_refl _ | omega | (simp; done) | (simp; omega)) _))) (hn0)).mono ?_); rintro e w' ⟨A1, n_1, c1, x1, rfl, rfl, o1⟩))
      | (go_at_call 15; ((with_reducible refine (toDay_any _ _ _ _ _).mono ?_); rintro e w' ⟨rfl, x2, rfl⟩))
      | (go_at_call 30; ((with_reducible refine (specCuesOf_any _ _ _ _ _ _ _ _ _ (o1.rd.below (by repeat (first | exact Below.refl _ _ | assumption | refine bExt ?_ _ | refine bAlloc ?_ _ | refine bDrewN ?_ _ | refine bDrew ?_ | refine bSet ?_ (by first | exact Nat.le_refl _ | omega | (simp; done) | (simp; omega)) _))) (bdS o1 hl0)).mono ?_); rintro e w' ⟨Ar3, nr3, cr3, xr3, rfl, rfl, or3⟩)))
  go_wp2_with fail
  refine (toSlotS_any _ _ _ _ _ (ha0.below (by repeat (first | exact Below.refl _ _ | assumption | refine bExt ?_ _ | refine bAlloc ?_ _ | refine bDrewN ?_ _ | refine bDrew ?_ | refine bSet ?_ (by first | exact Nat.le_refl _ | omega | (simp; done) | (simp; omega)) _))) (hn0)).mono ?_
  rintro e w1 ⟨A4, n_4, c4, x4, rfl, rfl, o4⟩
  go_wp2_with fail
  refine (toDay_any _ _ _ _ _).mono ?_
  rintro e w1 ⟨rfl, x5, rfl⟩
  go_wp2_with fail
  refine (implCuesOf_any _ _ _ _ _ _ _ _ _ (o4.rd.below (by repeat (first | exact Below.refl _ _ | assumption | refine bExt ?_ _ | refine bAlloc ?_ _ | refine bDrewN ?_ _ | refine bDrew ?_ | refine bSet ?_ (by first | exact Nat.le_refl _ | omega | (simp; done) | (simp; omega)) _))) (bdS o4 hl0) (o4.cap_.1)).mono ?_
  rintro e w1 ⟨Ar6, nr6, cr6, xr6, rfl, rfl, or6⟩
  go_wp2_with fail
  refine (eqCueS_any _ _ _ _ _ _ _ _ (or6.rd.below (by repeat (first | exact Below.refl _ _ | assumption | refine bExt ?_ _ | refine bAlloc ?_ _ | refine bDrewN ?_ _ | refine bDrew ?_ | refine bSet ?_ (by first | exact Nat.le_refl _ | omega | (simp; done) | (simp; omega)) _))) (or3.rd.below (by repeat (first | exact Below.refl _ _ | assumption | refine bExt ?_ _ | refine bAlloc ?_ _ | refine bDrewN ?_ _ | refine bDrew ?_ | refine bSet ?_ (by first | exact Nat.le_refl _ | omega | (simp; done) | (simp; omega)) _))) (bd3 or6 hr0)).mono ?_
  rintro e w1 ⟨rfl, x7, rfl⟩
  go_wp2_with fail
  refine (toSlotS_any _ _ _ _ _ (ha0.below (by repeat (first | exact Below.refl _ _ | assumption | refine bExt ?_ _ | refine bAlloc ?_ _ | refine bDrewN ?_ _ | refine bDrew ?_ | refine bSet ?_ (by first | exact Nat.le_refl _ | omega | (simp; done) | (simp; omega)) _))) (hn0)).mono ?_
  rintro e w1 ⟨A8, n_8, c8, x8, rfl, rfl, o8⟩
  go_wp2_with fail
  refine (eqSlotS_any _ _ _ _ _ _ _ _ (o4.rd.below (by repeat (first | exact Below.refl _ _ | assumption | refine bExt ?_ _ | refine bAlloc ?_ _ | refine bDrewN ?_ _ | refine bDrew ?_ | refine bSet ?_ (by first | exact Nat.le_refl _ | omega | (simp; done) | (simp; omega)) _))) (o8.rd.below (by repeat (first | exact Below.refl _ _ | assumption | refine bExt ?_ _ | refine bAlloc ?_ _ | refine bDrewN ?_ _ | refine bDrew ?_ | refine bSet ?_ (by first | exact Nat.le_refl _ | omega | (simp; done) | (simp; omega)) _))) (bdS o4 hl0)).mono ?_
  rintro e w1 ⟨rfl, x9, rfl⟩
  have hb10 := bdS o4 hl0
  have hv10 : n_4 ≤ 1048576 := by have h1 := o4.len; have h2 := hl0; omega
  go_wp2_with fail
  refine (markSlotS_any _ _ _ _ _ _ _ (o4.below (by repeat (first | exact Below.refl _ _ | assumption | refine bExt ?_ _ | refine bAlloc ?_ _ | refine bDrewN ?_ _ | refine bDrew ?_ | refine bSet ?_ (by first | exact Nat.le_refl _ | omega | (simp; done) | (simp; omega)) _))) (hb10) (by omega) (by omega)).mono ?_
  rintro e wm10 ⟨rfl, om10, hg10⟩
  have hB10 : Below (w.alloc (.cells #[.int .i64 d1_0, .int .i64 d1_1, .int .i64 d1_2, .int .i64 d1_3] 24)).heap.size (w.alloc (.cells #[.int .i64 d1_0, .int .i64 d1_1, .int .i64 d1_2, .int .i64 d1_3] 24)) wm10 := below_grown (by repeat (first | exact Below.refl _ _ | assumption | refine bExt ?_ _ | refine bAlloc ?_ _ | refine bDrewN ?_ _ | refine bDrew ?_ | refine bSet ?_ (by first | exact Nat.le_refl _ | omega | (simp; done) | (simp; omega)) _)) hg10 (fun g hg => Nat.le_trans (base_le (by repeat (first | exact Below.refl _ _ | assumption | refine bExt ?_ _ | refine bAlloc ?_ _ | refine bDrewN ?_ _ | refine bDrew ?_ | refine bSet ?_ (by first | exact Nat.le_refl _ | omega | (simp; done) | (simp; omega)) _))) (o4.blk hg).1)
  have ok10_w0 := (or3.below (by repeat (first | exact Below.refl _ _ | assumption | refine bExt ?_ _ | refine bAlloc ?_ _ | refine bDrewN ?_ _ | refine bDrew ?_ | refine bSet ?_ (by first | exact Nat.le_refl _ | omega | (simp; done) | (simp; omega)) _))).kept hg10 (ne_before (or3.below (by repeat (first | exact Below.refl _ _ | assumption | refine bExt ?_ _ | refine bAlloc ?_ _ | refine bDrewN ?_ _ | refine bDrew ?_ | refine bSet ?_ (by first | exact Nat.le_refl _ | omega | (simp; done) | (simp; omega)) _))) o4)
  have ok10_g0 := (or6.below (by repeat (first | exact Below.refl _ _ | assumption | refine bExt ?_ _ | refine bAlloc ?_ _ | refine bDrewN ?_ _ | refine bDrew ?_ | refine bSet ?_ (by first | exact Nat.le_refl _ | omega | (simp; done) | (simp; omega)) _))).kept hg10 (ne_after (o4.below (by repeat (first | exact Below.refl _ _ | assumption | refine bExt ?_ _ | refine bAlloc ?_ _ | refine bDrewN ?_ _ | refine bDrew ?_ | refine bSet ?_ (by first | exact Nat.le_refl _ | omega | (simp; done) | (simp; omega)) _))) or6)
  obtain ⟨y10, rfl⟩ := ext_ex hB10
  clear hg10
  have hp11 : ¬ (1 + 2 * n_4 : Int) < 0 := by omega
  go_wp2_with fail
  refine (eqCueS_any _ _ _ _ _ _ _ _ (ok10_g0.rd.below (by repeat (first | exact Below.refl _ _ | assumption | refine bExt ?_ _ | refine bAlloc ?_ _ | refine bDrewN ?_ _ | refine bDrew ?_ | refine bSet ?_ (by first | exact Nat.le_refl _ | omega | (simp; done) | (simp; omega)) _))) (ok10_w0.rd.below (by repeat (first | exact Below.refl _ _ | assumption | refine bExt ?_ _ | refine bAlloc ?_ _ | refine bDrewN ?_ _ | refine bDrew ?_ | refine bSet ?_ (by first | exact Nat.le_refl _ | omega | (simp; done) | (simp; omega)) _))) (bd3 ok10_g0 hr0)).mono ?_
  rintro e w1 ⟨rfl, x12, rfl⟩
  have hb13 := bd3 ok10_g0 hr0
  have hv13 : nr6 ≤ 1048576 := by have h1 := ok10_g0.len; have h2 := hr0; omega
  go_wp2_with fail
  refine (markCueS_any _ _ _ _ _ _ _ (ok10_g0.below (by repeat (first | exact Below.refl _ _ | assumption | refine bExt ?_ _ | refine bAlloc ?_ _ | refine bDrewN ?_ _ | refine bDrew ?_ | refine bSet ?_ (by first | exact Nat.le_refl _ | omega | (simp; done) | (simp; omega)) _))) (hb13) (by omega) (by omega)).mono ?_
  rintro e wm13 ⟨rfl, om13, hg13⟩
  have hB13 : Below (w.alloc (.cells #[.int .i64 d1_0, .int .i64 d1_1, .int .i64 d1_2, .int .i64 d1_3] 24)).heap.size (w.alloc (.cells #[.int .i64 d1_0, .int .i64 d1_1, .int .i64 d1_2, .int .i64 d1_3] 24)) wm13 := below_grown (by repeat (first | exact Below.refl _ _ | assumption | refine bExt ?_ _ | refine bAlloc ?_ _ | refine bDrewN ?_ _ | refine bDrew ?_ | refine bSet ?_ (by first | exact Nat.le_refl _ | omega | (simp; done) | (simp; omega)) _)) hg13 (fun g hg => Nat.le_trans (base_le (by repeat (first | exact Below.refl _ _ | assumption | refine bExt ?_ _ | refine bAlloc ?_ _ | refine bDrewN ?_ _ | refine bDrew ?_ | refine bSet ?_ (by first | exact Nat.le_refl _ | omega | (simp; done) | (simp; omega)) _))) (or6.blk hg).1)
  have ok13_w0 := (ok10_w0.below (by repeat (first | exact Below.refl _ _ | assumption | refine bExt ?_ _ | refine bAlloc ?_ _ | refine bDrewN ?_ _ | refine bDrew ?_ | refine bSet ?_ (by first | exact Nat.le_refl _ | omega | (simp; done) | (simp; omega)) _))).kept hg13 (ne_before (or3.below (by repeat (first | exact Below.refl _ _ | assumption | refine bExt ?_ _ | refine bAlloc ?_ _ | refine bDrewN ?_ _ | refine bDrew ?_ | refine bSet ?_ (by first | exact Nat.le_refl _ | omega | (simp; done) | (simp; omega)) _))) or6)
  have ok13_x0 := (om10.below (by repeat (first | exact Below.refl _ _ | assumption | refine bExt ?_ _ | refine bAlloc ?_ _ | refine bDrewN ?_ _ | refine bDrew ?_ | refine bSet ?_ (by first | exact Nat.le_refl _ | omega | (simp; done) | (simp; omega)) _))).kept hg13 (ne_before (o4.below (by repeat (first | exact Below.refl _ _ | assumption | refine bExt ?_ _ | refine bAlloc ?_ _ | refine bDrewN ?_ _ | refine bDrew ?_ | refine bSet ?_ (by first | exact Nat.le_refl _ | omega | (simp; done) | (simp; omega)) _))) or6)
  obtain ⟨y13, rfl⟩ := ext_ex hB13
  clear hg13
  go_wp2_with fail
  refine (heldCueS_any _ _ _ _ _ _ (om13.rd.below (by repeat (first | exact Below.refl _ _ | assumption | refine bExt ?_ _ | refine bAlloc ?_ _ | refine bDrewN ?_ _ | refine bDrew ?_ | refine bSet ?_ (by first | exact Nat.le_refl _ | omega | (simp; done) | (simp; omega)) _))) (hb13) (by omega) (by omega) rfl).mono ?_
  rintro e w1 ⟨rfl, rfl⟩
  have hp15 : ¬ (1 + 3 * nr6 : Int) < 0 := by omega
  go_wp2_with fail
  go_region_held3 (fun w' => w'.cell? ⟨w.heap.size, 0, none⟩ = some (.int .i64 d1_0) ∧ w'.cell? ⟨w.heap.size, 1, none⟩ = some (.int .i64 d1_1) ∧ w'.cell? ⟨w.heap.size, 2, none⟩ = some (.int .i64 d1_2) ∧ w'.cell? ⟨w.heap.size, 3, none⟩ = some (.int .i64 d1_3)) (refine ⟨?_, ?_, ?_, ?_⟩ <;> simp [go_sem])
    (first
      | (go_at_call 14; ((with_reducible refine (toSlotS_any _ _ _ _ _ (ha0.below (by repeat (first | exact Below.refl _ _ | assumption | refine bExt ?_ _ | refine bAlloc ?_ _ | refine bDrewN ?_ _ | refine bDrew ?_ | refine bSet ?_ (by first | exact Nat.le_refl _ | omega | (simp; done) | (simp; omega)) _))) (hn0)).mono ?_); rintro e w' ⟨A16, n_16, c16, x16, rfl, rfl, o16⟩))
      | (go_at_call 15; ((with_reducible refine (toDay_any _ _ _ _ _).mono ?_); rintro e w' ⟨rfl, x17, rfl⟩))
      | (go_at_call 31; ((with_reducible refine (implCuesOf_any _ _ _ _ _ _ _ _ _ (o16.rd.below (by repeat (first | exact Below.refl _ _ | assumption | refine bExt ?_ _ | refine bAlloc ?_ _ | refine bDrewN ?_ _ | refine bDrew ?_ | refine bSet ?_ (by first | exact Nat.le_refl _ | omega | (simp; done) | (simp; omega)) _))) (bdS o16 hl0) (o16.cap_.1)).mono ?_); rintro e w' ⟨Ar18, nr18, cr18, xr18, rfl, rfl, or18⟩)))
  go_wp2_with fail
  refine (eqCueS_any _ _ _ _ _ _ _ _ (or18.rd.below (by repeat (first | exact Below.refl _ _ | assumption | refine bExt ?_ _ | refine bAlloc ?_ _ | refine bDrewN ?_ _ | refine bDrew ?_ | refine bSet ?_ (by first | exact Nat.le_refl _ | omega | (simp; done) | (simp; omega)) _))) (ok13_w0.rd.below (by repeat (first | exact Below.refl _ _ | assumption | refine bExt ?_ _ | refine bAlloc ?_ _ | refine bDrewN ?_ _ | refine bDrew ?_ | refine bSet ?_ (by first | exact Nat.le_refl _ | omega | (simp; done) | (simp; omega)) _))) (bd3 or18 hr0)).mono ?_
  rintro e w1 ⟨rfl, x19, rfl⟩
  go_wp2_with fail
  refine (heldCueS_any _ _ _ _ _ _ (om13.rd.below (by repeat (first | exact Below.refl _ _ | assumption | refine bExt ?_ _ | refine bAlloc ?_ _ | refine bDrewN ?_ _ | refine bDrew ?_ | refine bSet ?_ (by first | exact Nat.le_refl _ | omega | (simp; done) | (simp; omega)) _))) (hb13) (by omega) (by omega) rfl).mono ?_
  rintro e w1 ⟨rfl, rfl⟩
  have hp21 : ¬ (1 + 3 * nr6 : Int) < 0 := by omega
  go_wp2_with fail
  go_ret
  exact ⟨rfl, by repeat (first | exact Below.refl _ _ | assumption | refine bExt ?_ _ | refine bAlloc ?_ _ | refine bDrewN ?_ _ | refine bDrew ?_ | refine bSet ?_ (by first | exact Nat.le_refl _ | omega | (simp; done) | (simp; omega)) _)⟩
set_option maxRecDepth 100000 in
theorem fnExactCuesOf_lifted (os : Os) (started : os.Started) (H : Type) (enc : TypeId × Value → H) :
    ReturnsInHanded {} Try.checked os 7 .any (Rows.fnExactCuesOfSpec.pre6 enc Try.prog Try.f7 Rows.fnExactCuesOfRow.domain false) (Rows.fnExactCuesOfSpec.post enc Try.prog Try.f7 false true false false) := by
  refine returnsInHanded_of_change (C := Try.checked) ownKnobNone started (by kernel_rfl) Try.func7
    (ChangeSpec.witness6 (enc := enc) (C := Try.checked) false ⟨#[], #[.slice none 0 0, .agg #[.int .i64 0, .int .i64 0, .int .i64 0, .int .i64 0]], []⟩ 8 (by kernel_rfl) (by kernel_rfl) (by kernel_rfl) (by kernel_rfl)) ?_
  intro W base args ds gs before hval0 hW hcnd _
  have hval : ∀ (j : Nat) t v, Try.f7.params[j]? = some t → args[j]? = some v → Value.okWide Try.prog W .any base t v := hval0
  have hW' := hW
  obtain ⟨p, q, hA0, hV, rfl, hfz, hnd⟩ := hW
  have hA : DataW.TrodAll enc Try.prog W 0 (fun _ => true) true Try.f7.params.toList args.toList ds p := hA0
  have hAk := hA
  rw [Try.params7] at hA hval
  obtain ⟨v0, vs0, d0, ds0, p0, q0, hargs, rfl, rfl, h0, r0⟩ := trodAll_cons hA
  obtain ⟨v1, vs1, d1, ds1, p1, q1, rfl, rfl, rfl, h1, r1⟩ := trodAll_cons r0
  obtain ⟨rfl, rfl, rfl⟩ := trodAll_nil r1
  obtain rfl : args = #[v0, v1] := by cases args; simp_all
  obtain ⟨rfl, rfl⟩ := trodVars_none hV
  obtain ⟨A0, n0, c0, l0, rfl, g0, nc0, cm0⟩ := open_RdS (hval 0 22 v0 rfl rfl) h0
  obtain ⟨c1_0, c1_1, c1_2, c1_3, y1_0, y1_1, y1_2, y1_3, m1, rfl, hd1, hp1, e1_0, e1_1, e1_2, e1_3⟩ := Go.Joins.open_agg4 Try.underlying24 (by kernel_rfl) (by kernel_rfl) (hval 1 24 v1 rfl rfl) h1
  obtain ⟨x1_0, z1_0, _, w1_0⟩ := DataW.trod_int Try.underlying3 e1_0
  simp at z1_0; subst z1_0
  have b1_0 := wfI w1_0
  obtain ⟨x1_1, z1_1, _, w1_1⟩ := DataW.trod_int Try.underlying3 e1_1
  simp at z1_1; subst z1_1
  have b1_1 := wfI w1_1
  obtain ⟨x1_2, z1_2, _, w1_2⟩ := DataW.trod_int Try.underlying3 e1_2
  simp at z1_2; subst z1_2
  have b1_2 := wfI w1_2
  obtain ⟨x1_3, z1_3, _, w1_3⟩ := DataW.trod_int Try.underlying3 e1_3
  simp at z1_3; subst z1_3
  have b1_3 := wfI w1_3
  refine (law_CuesOf _ _ _ _ _ g0 (by simp only [maxLen] at cm0; omega) _ _ _ _).mono fun e W' hh => ?_
  obtain ⟨he, bel⟩ := hh
  subst he
  exact ⟨_, rfl, _, _, _, [], _, [], hW', trodAll_mk1 (shut_bool Try.underlying4 _), trodAll_below laidOutAll bel _ _ _ _ (by rw [tsOk, Try.params7]; kernel_rfl) hAk, rfl, bel.frame _, fun h => by cases h⟩
theorem fnExactCuesOf_holds : Rows.FnExactCuesOfSaid :=
  OpenClaim.holds_of_wide 7 Try.f7 rfl rfl rfl rfl rfl rfl rfl ⟨rfl, rfl, rfl, rfl, rfl⟩ rfl rfl rfl rfl rfl (by kernel_rfl) Try.func7 (by kernel_rfl)
    (of_decide_eq_true (by kernel_rfl)) (by unfold Func.isWrapper; first | (rw [if_pos (by decide +kernel)]; kernel_rfl) | (rw [if_neg (by decide +kernel)]; exact ⟨rfl, rfl⟩))
    (fun os started H enc _ => fnExactCuesOf_lifted os started H enc)
end Go.Proofs.Ytdmaildajmhicaa
