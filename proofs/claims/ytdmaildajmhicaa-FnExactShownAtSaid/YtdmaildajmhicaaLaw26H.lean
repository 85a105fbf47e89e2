/- The law FnExactShownAt returns true for every input. Conditions: none. -/
import Derived.Test.YtdmaildajmhicaaCues5
import Derived.Test.YtdmaildajmhicaaLiftSlots
import Derived.Deep.RegionHeld3
import Derived.Deep.DeepCutAuto
set_option linter.unusedVariables false
set_option linter.unusedSimpArgs false
set_option maxRecDepth 100000
namespace Go.Proofs.Ytdmaildajmhicaa
open Go.ChangeShapes Go.WideShapes Go.ChangeAt Go.RowKit
theorem setCell_cell_lt {W : World} {b o b' o' : Nat} {v : Value} (h : b < b') : (W.setCell ⟨b', o', none⟩ v).cell? ⟨b, o, none⟩ = W.cell? ⟨b, o, none⟩ := by
  have := Below.heap_setCell W ⟨b', o', none⟩ v b (by simp; omega)
  unfold World.cell?
  rw [this]
theorem set3_cells {W : World} {B : Nat} {x y z a b c : Value} (h0 : W.cell? ⟨B, 0, none⟩ = some x) (h1 : W.cell? ⟨B, 1, none⟩ = some y) (h2 : W.cell? ⟨B, 2, none⟩ = some z) :
    (((W.setCell ⟨B, 0, none⟩ a).setCell ⟨B, 1, none⟩ b).setCell ⟨B, 2, none⟩ c).cell? ⟨B, 0, none⟩ = some a ∧ (((W.setCell ⟨B, 0, none⟩ a).setCell ⟨B, 1, none⟩ b).setCell ⟨B, 2, none⟩ c).cell? ⟨B, 1, none⟩ = some b ∧ (((W.setCell ⟨B, 0, none⟩ a).setCell ⟨B, 1, none⟩ b).setCell ⟨B, 2, none⟩ c).cell? ⟨B, 2, none⟩ = some c := by
  have n01 : (⟨B, 0, none⟩ : Addr) ≠ ⟨B, 1, none⟩ := by simp
  have n02 : (⟨B, 0, none⟩ : Addr) ≠ ⟨B, 2, none⟩ := by simp
  have n12 : (⟨B, 1, none⟩ : Addr) ≠ ⟨B, 2, none⟩ := by simp
  refine ⟨?_, ?_, ?_⟩
  · rw [World.cell?_setCell_other (h := n02.symm), World.cell?_setCell_other (h := n01.symm)]
    exact (World.cell?_setCell_same (h := h0)) _
  · rw [World.cell?_setCell_other (h := n12.symm)]
    exact (World.cell?_setCell_same (h := show _ = some y by rw [World.cell?_setCell_other (h := n01)]; exact h1)) _
  · exact (World.cell?_setCell_same (h := show _ = some z by rw [World.cell?_setCell_other (h := n12), World.cell?_setCell_other (h := n02)]; exact h2)) _
set_option maxHeartbeats 4000000 in
theorem law_ShownAt (w : World) (L0 : Option Addr) (n0 cl0 : Nat) (l0 : List (Int × Int)) (ha0 : RdS w L0 n0 l0) (hm0 : n0 ≤ 9223372036854775807) (d1_0 d1_1 d1_2 d1_3 : Int) (i2 : Int) :
    Calls Try.prog 5 #[.slice L0 n0 cl0, .agg #[.int .i64 d1_0, .int .i64 d1_1, .int .i64 d1_2, .int .i64 d1_3], .int .i64 i2] w fun e w' => e = .returned (.bool true) ∧ Below w.heap.size w w' := by
  by_cases hs0 : (1048576 : Int) < n0
  · go_enter Try.func5, Try.ntmps5
    go_wp2_with fail
    refine (szSlotS_any _ _ _ _ _ (by omega) (by omega) hm0).mono ?_
    rintro e w1 ⟨rfl, rfl⟩
    rw [if_pos (by omega)]
    go_wp2_with fail
    go_ret
    exact ⟨rfl, by repeat (first | exact Below.refl _ _ | assumption | refine bExt ?_ _ | refine bAlloc ?_ _ | refine bDrewN ?_ _ | refine bDrew ?_ | refine bSet ?_ (by first | exact Nat.le_refl _ | omega | (simp; done) | (simp; omega)) _)⟩
  have hn0 : n0 ≤ 1099511627776 := by omega
  have hl0 : l0.length ≤ 1048576 := by have := ha0.len; omega
  have hd0 : ¬ (1048576 : Int) - n0 < 0 := by omega
  go_enter Try.func5, Try.ntmps5
  go_wp2_with fail
  refine (szSlotS_any _ _ _ _ _ (by omega) (by omega) hm0).mono ?_
  rintro e w1 ⟨rfl, rfl⟩
  rw [if_neg (by omega)]
  go_upto_region 5 with fail
  go_cut [8, 9] (fun s8 s9 wx => ∃ B : Nat, s8 = .pointer (some ⟨B, 0, none⟩) ∧ s9 = .bool (shP l0 d1_0 d1_1 d1_2 d1_3 i2).2 ∧ Below (w.alloc (.cells #[.int .i64 d1_0, .int .i64 d1_1, .int .i64 d1_2, .int .i64 d1_3] 24)).heap.size (w.alloc (.cells #[.int .i64 d1_0, .int .i64 d1_1, .int .i64 d1_2, .int .i64 d1_3] 24)) wx ∧ B < wx.heap.size ∧ wx.cell? ⟨B, 0, none⟩ = some (.int .i64 (shP l0 d1_0 d1_1 d1_2 d1_3 i2).1.1) ∧ wx.cell? ⟨B, 1, none⟩ = some (.int .i64 (shP l0 d1_0 d1_1 d1_2 d1_3 i2).1.2.1) ∧ wx.cell? ⟨B, 2, none⟩ = some (.int .i64 (shP l0 d1_0 d1_1 d1_2 d1_3 i2).1.2.2))
  case first =>
    go_region_held3 (fun w' => w'.cell? ⟨w.heap.size, 0, none⟩ = some (.int .i64 d1_0) ∧ w'.cell? ⟨w.heap.size, 1, none⟩ = some (.int .i64 d1_1) ∧ w'.cell? ⟨w.heap.size, 2, none⟩ = some (.int .i64 d1_2) ∧ w'.cell? ⟨w.heap.size, 3, none⟩ = some (.int .i64 d1_3)) (refine ⟨?_, ?_, ?_, ?_⟩ <;> simp [go_sem, setCell_cell_lt])
(first
        | (go_at_call 14; ((with_reducible refine (toSlotS_any _ _ _ _ _ (ha0.below (by repeat (first | exact Below.refl _ _ | assumption | refine bExt ?_ _ | refine bAlloc ?_ _ | refine bDrewN ?_ _ | refine bDrew ?_ | refine bSet ?_ (by first | exact Nat.le_refl _ | omega | (simp; done) | (simp; omega)) _))) (hn0)).mono ?_); rintro e w' ⟨A1, n_1, c1, x1, rfl, rfl, o1⟩))
        | (go_at_call 15; ((with_reducible refine (toDay_any _ _ _ _ _).mono ?_); rintro e w' ⟨rfl, x2, rfl⟩))
        | (go_at_call 24; ((with_reducible refine (specShownAt_any _ _ _ _ _ _ _ _ _ _ (o1.rd.below (by repeat (first | exact Below.refl _ _ | assumption | refine bExt ?_ _ | refine bAlloc ?_ _ | refine bDrewN ?_ _ | refine bDrew ?_ | refine bSet ?_ (by first | exact Nat.le_refl _ | omega | (simp; done) | (simp; omega)) _))) (bdS o1 hl0)).mono ?_); rintro e w' ⟨xr3, rfl, rfl⟩)))
    all_goals
      go_wp2_with fail
      go_meet
      refine ⟨_, rfl, rfl, by repeat (first | exact Below.refl _ _ | assumption | refine bExt ?_ _ | refine bAlloc ?_ _ | refine bDrewN ?_ _ | refine bDrew ?_ | refine bSet ?_ (by first | exact Nat.le_refl _ | (simp; done) | (simp; omega) | exact base_le (by repeat (first | exact Below.refl _ _ | assumption | refine bExt ?_ _ | refine bAlloc ?_ _ | refine bDrewN ?_ _ | refine bDrew ?_ | refine bSet ?_ (by first | exact Nat.le_refl _ | omega | (simp; done) | (simp; omega)) _))) _), by simp [go_sem], ?_⟩
      first
        | (refine ⟨?_, ?_, ?_⟩ <;> (simp [go_sem]; done))
        | exact set3_cells (x := .int .i64 0) (y := .int .i64 0) (z := .int .i64 0) (by simp [go_sem]) (by simp [go_sem]) (by simp [go_sem])
  case rest =>
    obtain ⟨B, rfl, rfl, hBel, hBl, hB0, hB1, hB2⟩ := hcut
    obtain ⟨yB, rfl⟩ := ext_ex hBel
    have hnl : w.heap.size < ((w.alloc (.cells #[.int .i64 d1_0, .int .i64 d1_1, .int .i64 d1_2, .int .i64 d1_3] 24))).heap.size := by simp
    go_wp2_with fail
    refine (toSlotS_any _ _ _ _ _ (ha0.below (by repeat (first | exact Below.refl _ _ | assumption | refine bExt ?_ _ | refine bAlloc ?_ _ | refine bDrewN ?_ _ | refine bDrew ?_ | refine bSet ?_ (by first | exact Nat.le_refl _ | omega | (simp; done) | (simp; omega)) _))) (hn0)).mono ?_
    rintro e w1 ⟨A4, n_4, c4, x4, rfl, rfl, o4⟩
    go_wp2_with fail
    refine (toDay_any _ _ _ _ _).mono ?_
    rintro e w1 ⟨rfl, x5, rfl⟩
    go_wp2_with fail
    refine (implShownAt_any _ _ _ _ _ _ _ _ _ _ (o4.rd.below (by repeat (first | exact Below.refl _ _ | assumption | refine bExt ?_ _ | refine bAlloc ?_ _ | refine bDrewN ?_ _ | refine bDrew ?_ | refine bSet ?_ (by first | exact Nat.le_refl _ | omega | (simp; done) | (simp; omega)) _))) (bdS o4 hl0) (o4.cap_.1)).mono ?_
    rintro e w1 ⟨xr6, rfl, rfl⟩
    go_wp2_with fail
    refine (eqCue_any _ _ _ _ _ _ _).mono ?_
    rintro e w1 ⟨rfl, xq, rfl⟩
    go_wp2_with fail
    refine (toSlotS_any _ _ _ _ _ (ha0.below (by repeat (first | exact Below.refl _ _ | assumption | refine bExt ?_ _ | refine bAlloc ?_ _ | refine bDrewN ?_ _ | refine bDrew ?_ | refine bSet ?_ (by first | exact Nat.le_refl _ | omega | (simp; done) | (simp; omega)) _))) (hn0)).mono ?_
    rintro e w1 ⟨A7, n_7, c7, x7, rfl, rfl, o7⟩
    go_wp2_with fail
    refine (eqSlotS_any _ _ _ _ _ _ _ _ (o4.rd.below (by repeat (first | exact Below.refl _ _ | assumption | refine bExt ?_ _ | refine bAlloc ?_ _ | refine bDrewN ?_ _ | refine bDrew ?_ | refine bSet ?_ (by first | exact Nat.le_refl _ | omega | (simp; done) | (simp; omega)) _))) (o7.rd.below (by repeat (first | exact Below.refl _ _ | assumption | refine bExt ?_ _ | refine bAlloc ?_ _ | refine bDrewN ?_ _ | refine bDrew ?_ | refine bSet ?_ (by first | exact Nat.le_refl _ | omega | (simp; done) | (simp; omega)) _))) (bdS o4 hl0)).mono ?_
    rintro e w1 ⟨rfl, x8, rfl⟩
    go_wp2_with fail
    go_ret
    exact ⟨rfl, by repeat (first | exact Below.refl _ _ | assumption | refine bExt ?_ _ | refine bAlloc ?_ _ | refine bDrewN ?_ _ | refine bDrew ?_ | refine bSet ?_ (by first | exact Nat.le_refl _ | omega | (simp; done) | (simp; omega)) _)⟩
set_option maxRecDepth 100000 in
theorem fnExactShownAt_lifted (os : Os) (started : os.Started) (H : Type) (enc : TypeId × Value → H) :
    ReturnsInHanded {} Try.checked os 5 .any (Rows.fnExactShownAtSpec.pre6 enc Try.prog Try.f5 Rows.fnExactShownAtRow.domain false) (Rows.fnExactShownAtSpec.post enc Try.prog Try.f5 false true false false) := by
  refine returnsInHanded_of_change (C := Try.checked) ownKnobNone started (by kernel_rfl) Try.func5
    (ChangeSpec.witness6 (enc := enc) (C := Try.checked) false ⟨#[], #[.slice none 0 0, .agg #[.int .i64 0, .int .i64 0, .int .i64 0, .int .i64 0], .int .i64 0], []⟩ 8 (by kernel_rfl) (by kernel_rfl) (by kernel_rfl) (by kernel_rfl)) ?_
  intro W base args ds gs before hval0 hW hcnd _
  have hval : ∀ (j : Nat) t v, Try.f5.params[j]? = some t → args[j]? = some v → Value.okWide Try.prog W .any base t v := hval0
  have hW' := hW
  obtain ⟨p, q, hA0, hV, rfl, hfz, hnd⟩ := hW
  have hA : DataW.TrodAll enc Try.prog W 0 (fun _ => true) true Try.f5.params.toList args.toList ds p := hA0
  have hAk := hA
  rw [Try.params5] at hA hval
  obtain ⟨v0, vs0, d0, ds0, p0, q0, hargs, rfl, rfl, h0, r0⟩ := trodAll_cons hA
  obtain ⟨v1, vs1, d1, ds1, p1, q1, rfl, rfl, rfl, h1, r1⟩ := trodAll_cons r0
  obtain ⟨v2, vs2, d2, ds2, p2, q2, rfl, rfl, rfl, h2, r2⟩ := trodAll_cons r1
  obtain ⟨rfl, rfl, rfl⟩ := trodAll_nil r2
  obtain rfl : args = #[v0, v1, v2] := by cases args; simp_all
  obtain ⟨rfl, rfl⟩ := trodVars_none hV
  obtain ⟨A0, n0, c0, l0, rfl, g0, nc0, cm0⟩ := open_RdS (hval 0 22 v0 rfl rfl) h0
  obtain ⟨c1_0, c1_1, c1_2, c1_3, y1_0, y1_1, y1_2, y1_3, m1, rfl, hd1, hp1, e1_0, e1_1, e1_2, e1_3⟩ := Go.Joins.open_agg4 Try.underlying24 (by kernel_rfl) (by kernel_rfl) (hval 1 24 v1 rfl rfl) h1
  obtain ⟨x1_0, z1_0, _, w1_0⟩ := DataW.trod_int Try.underlying3 e1_0
  simp at z1_0; subst z1_0
  have b1_0 := wfI w1_0
  obtain ⟨x1_1, z1_1, _, w1_1⟩ := DataW.trod_int Try.underlying3 e1_1
  simp at z1_1; subst z1_1
  have b1_1 := wfI w1_1
  obtain ⟨x1_2, z1_2, _, w1_2⟩ := DataW.trod_int Try.underlying3 e1_2
  simp at z1_2; subst z1_2
  have b1_2 := wfI w1_2
  obtain ⟨x1_3, z1_3, _, w1_3⟩ := DataW.trod_int Try.underlying3 e1_3
  simp at z1_3; subst z1_3
  have b1_3 := wfI w1_3
  obtain ⟨a2, rfl, rfl, rfl, w2⟩ := open_int Try.underlying3 (hval 2 3 v2 rfl rfl) h2
  have b2 := wfI w2
  refine (law_ShownAt _ _ _ _ _ g0 (by simp only [maxLen] at cm0; omega) _ _ _ _ _).mono fun e W' hh => ?_
  obtain ⟨he, bel⟩ := hh
  subst he
  exact ⟨_, rfl, _, _, _, [], _, [], hW', trodAll_mk1 (shut_bool Try.underlying4 _), trodAll_below laidOutAll bel _ _ _ _ (by rw [tsOk, Try.params5]; kernel_rfl) hAk, rfl, bel.frame _, fun h => by cases h⟩
theorem fnExactShownAt_holds : Rows.FnExactShownAtSaid :=
  OpenClaim.holds_of_wide 5 Try.f5 rfl rfl rfl rfl rfl rfl rfl ⟨rfl, rfl, rfl, rfl, rfl⟩ rfl rfl rfl rfl rfl (by kernel_rfl) Try.func5 (by kernel_rfl)
    (of_decide_eq_true (by kernel_rfl)) (by unfold Func.isWrapper; first | (rw [if_pos (by decide +kernel)]; kernel_rfl) | (rw [if_neg (by decide +kernel)]; exact ⟨rfl, rfl⟩))
    (fun os started H enc _ => fnExactShownAt_lifted os started H enc)
end Go.Proofs.Ytdmaildajmhicaa
