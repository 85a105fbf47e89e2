/- The law FnExactAreOfficials returns true for every input. Conditions: none. -/
import Derived.Test.YtpgdenckfkjjfaaPanel
import Derived.Test.YtpgdenckfkjjfaaLift
import Derived.Test.YtpgdenckfkjjfaaLawKit
import Derived.Deep.RegionHeld3
set_option linter.unusedVariables false
set_option linter.unusedSimpArgs false
namespace Go.Proofs.Ytpgdenckfkjjfaa
open Go.ChangeShapes Go.WideShapes Go.ChangeAt Go.RowKit
set_option maxHeartbeats 1000000 in
theorem law_AreOfficials (w : World) (L0 : Option Addr) (n0 cl0 : Nat) (l0 : List T3) (ha0 : Rd3 w L0 n0 l0) (hm0 : n0 ≤ 9223372036854775807) :
    Calls Try.prog 3 #[.slice L0 n0 cl0] w fun e w' => e = .returned (.bool true) ∧ Below w.heap.size w w' := by
  by_cases hs0 : (1048576 : Int) < n0
  · go_enter Try.func3, Try.ntmps3
    go_wp2_with fail
    refine (szOfficialS_any _ _ _ _ _ (by omega) (by omega) hm0).mono ?_
    rintro e w1 ⟨rfl, rfl⟩
    rw [if_pos (by omega)]
    go_wp2_with fail
    go_ret
    exact ⟨rfl, by repeat (first | exact Below.refl _ _ | assumption | refine bExt ?_ _ | refine bAlloc ?_ _ | refine bDrewN ?_ _ | refine bDrew ?_ | refine bSet ?_ (by first | exact Nat.le_refl _ | omega | (simp; done) | (simp; omega)) _)⟩
  have hn0 : n0 ≤ 1099511627776 := by omega
  have hl0 : l0.length ≤ 1048576 := by have := ha0.len; omega
  have hd0 : ¬ (1048576 : Int) - n0 < 0 := by omega
  go_enter Try.func3, Try.ntmps3
  go_wp2_with fail
  refine (szOfficialS_any _ _ _ _ _ (by omega) (by omega) hm0).mono ?_
  rintro e w1 ⟨rfl, rfl⟩
  rw [if_neg (by omega)]
  go_wp2_with fail
  refine (toOfficialS_any _ _ _ _ _ (ha0.below (by repeat (first | exact Below.refl _ _ | assumption | refine bExt ?_ _ | refine bAlloc ?_ _ | refine bDrewN ?_ _ | refine bDrew ?_ | refine bSet ?_ (by first | exact Nat.le_refl _ | omega | (simp; done) | (simp; omega)) _))) (hn0)).mono ?_
  rintro e w1 ⟨A1, n_1, c1, x1, rfl, rfl, o1⟩
  go_wp2_with fail
  refine (specAreOfficials_any _ _ _ _ _ (o1.rd.below (by repeat (first | exact Below.refl _ _ | assumption | refine bExt ?_ _ | refine bAlloc ?_ _ | refine bDrewN ?_ _ | refine bDrew ?_ | refine bSet ?_ (by first | exact Nat.le_refl _ | omega | (simp; done) | (simp; omega)) _))) (bd3 o1 hl0)).mono ?_
  rintro e w1 ⟨rfl, xr2, rfl⟩
  go_wp2_with fail
  refine (toOfficialS_any _ _ _ _ _ (ha0.below (by repeat (first | exact Below.refl _ _ | assumption | refine bExt ?_ _ | refine bAlloc ?_ _ | refine bDrewN ?_ _ | refine bDrew ?_ | refine bSet ?_ (by first | exact Nat.le_refl _ | omega | (simp; done) | (simp; omega)) _))) (hn0)).mono ?_
  rintro e w1 ⟨A3, n_3, c3, x3, rfl, rfl, o3⟩
  go_wp2_with fail
  refine (implAreOfficials_any _ _ _ _ _ (o3.rd.below (by repeat (first | exact Below.refl _ _ | assumption | refine bExt ?_ _ | refine bAlloc ?_ _ | refine bDrewN ?_ _ | refine bDrew ?_ | refine bSet ?_ (by first | exact Nat.le_refl _ | omega | (simp; done) | (simp; omega)) _))) (bd3 o3 hl0) (o3.cap_.1)).mono ?_
  rintro e w1 ⟨rfl, xr4, rfl⟩
  go_wp2_with fail
  refine (toOfficialS_any _ _ _ _ _ (ha0.below (by repeat (first | exact Below.refl _ _ | assumption | refine bExt ?_ _ | refine bAlloc ?_ _ | refine bDrewN ?_ _ | refine bDrew ?_ | refine bSet ?_ (by first | exact Nat.le_refl _ | omega | (simp; done) | (simp; omega)) _))) (hn0)).mono ?_
  rintro e w1 ⟨A5, n_5, c5, x5, rfl, rfl, o5⟩
  go_wp2_with fail
  refine (eqOfficialS_any _ _ _ _ _ _ _ _ (o3.rd.below (by repeat (first | exact Below.refl _ _ | assumption | refine bExt ?_ _ | refine bAlloc ?_ _ | refine bDrewN ?_ _ | refine bDrew ?_ | refine bSet ?_ (by first | exact Nat.le_refl _ | omega | (simp; done) | (simp; omega)) _))) (o5.rd.below (by repeat (first | exact Below.refl _ _ | assumption | refine bExt ?_ _ | refine bAlloc ?_ _ | refine bDrewN ?_ _ | refine bDrew ?_ | refine bSet ?_ (by first | exact Nat.le_refl _ | omega | (simp; done) | (simp; omega)) _))) (bd3 o3 hl0)).mono ?_
  rintro e w1 ⟨rfl, x6, rfl⟩
  go_wp2_with fail
  go_ret
  exact ⟨rfl, by repeat (first | exact Below.refl _ _ | assumption | refine bExt ?_ _ | refine bAlloc ?_ _ | refine bDrewN ?_ _ | refine bDrew ?_ | refine bSet ?_ (by first | exact Nat.le_refl _ | omega | (simp; done) | (simp; omega)) _)⟩
set_option maxRecDepth 100000 in
theorem fnExactAreOfficials_lifted (os : Os) (started : os.Started) (H : Type) (enc : TypeId × Value → H) :
    ReturnsInHanded {} Try.checked os 3 .any (Rows.fnExactAreOfficialsSpec.pre6 enc Try.prog Try.f3 Rows.fnExactAreOfficialsRow.domain false) (Rows.fnExactAreOfficialsSpec.post enc Try.prog Try.f3 false true false false) := by
  refine returnsInHanded_of_change (C := Try.checked) ownKnobNone started (by kernel_rfl) Try.func3
    (ChangeSpec.witness6 (enc := enc) (C := Try.checked) false ⟨#[], #[.slice none 0 0], []⟩ 8 (by kernel_rfl) (by kernel_rfl) (by kernel_rfl) (by kernel_rfl)) ?_
  intro W base args ds gs before hval0 hW hcnd _
  have hval : ∀ (j : Nat) t v, Try.f3.params[j]? = some t → args[j]? = some v → Value.okWide Try.prog W .any base t v := hval0
  have hW' := hW
  obtain ⟨p, q, hA0, hV, rfl, hfz, hnd⟩ := hW
  have hA : DataW.TrodAll enc Try.prog W 0 (fun _ => true) true Try.f3.params.toList args.toList ds p := hA0
  have hAk := hA
  rw [Try.params3] at hA hval
  obtain ⟨v0, vs0, d0, ds0, p0, q0, hargs, rfl, rfl, h0, r0⟩ := trodAll_cons hA
  obtain ⟨rfl, rfl, rfl⟩ := trodAll_nil r0
  obtain rfl : args = #[v0] := by cases args; simp_all
  obtain ⟨rfl, rfl⟩ := trodVars_none hV
  obtain ⟨A0, n0, c0, l0, rfl, g0, nc0, cm0⟩ := open_RdOfficial (hval 0 22 v0 rfl rfl) h0
  refine (law_AreOfficials _ _ _ _ _ g0 (by simp only [maxLen] at cm0; omega)).mono fun e W' hh => ?_
  obtain ⟨he, bel⟩ := hh
  subst he
  exact ⟨_, rfl, _, _, _, [], _, [], hW', trodAll_mk1 (shut_bool Try.underlying4 _), trodAll_below laidOutAll bel _ _ _ _ (by rw [tsOk, Try.params3]; kernel_rfl) hAk, rfl, bel.frame _, fun h => by cases h⟩
theorem fnExactAreOfficials_holds : Rows.FnExactAreOfficialsSaid :=
  OpenClaim.holds_of_wide 3 Try.f3 rfl rfl rfl rfl rfl rfl rfl ⟨rfl, rfl, rfl, rfl, rfl⟩ rfl rfl rfl rfl rfl (by kernel_rfl) Try.func3 (by kernel_rfl)
    (of_decide_eq_true (by kernel_rfl)) (by unfold Func.isWrapper; first | (rw [if_pos (by decide +kernel)]; kernel_rfl) | (rw [if_neg (by decide +kernel)]; exact ⟨rfl, rfl⟩))
    (fun os started H enc _ => fnExactAreOfficials_lifted os started H enc)
end Go.Proofs.Ytpgdenckfkjjfaa
