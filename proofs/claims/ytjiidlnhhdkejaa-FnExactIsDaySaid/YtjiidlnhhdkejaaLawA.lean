/- The law FnExactIsDay returns true for every input, and leaves its argument as it was. Conditions: none. -/
import Derived.Test.YtjiidlnhhdkejaaDay
import Derived.Test.YtjiidlnhhdkejaaLift
set_option linter.unusedVariables false
set_option linter.unusedSimpArgs false
namespace Go.Proofs.Ytjiidlnhhdkejaa
open Go.ChangeShapes Go.WideShapes Go.ChangeAt Go.RowKit
theorem law_IsDay (a b c d : Int) (w : World) :
    Calls Try.prog 3 #[.agg #[.int .i64 a, .int .i64 b, .int .i64 c, .int .i64 d]] w fun e w' => e = .returned (.bool true) ∧ Below w.heap.size w w' := by
  go_enter Try.func3, Try.ntmps3
  go_wp2_with (first | (go_at_call 16; ((with_reducible refine (toDay_any _ _ _ _ _).mono ?_); rintro e w' ⟨rfl, p, rfl⟩)) | (go_at_call 15; ((with_reducible refine (specIsDay_any _ _ _ _ _).mono ?_); rintro e w' ⟨rfl, p, rfl⟩)) | (go_at_call 17; ((with_reducible refine (implIsDay_any _ _ _ _ _).mono ?_); rintro e w' ⟨rfl, p, rfl⟩)))
  go_ret
  exact ⟨rfl, by repeat (first | exact Below.refl _ _ | assumption | refine bExt ?_ _ | refine bAlloc ?_ _ | refine bDrewN ?_ _ | refine bDrew ?_ | refine bSet ?_ (by first | exact Nat.le_refl _ | omega | (simp; done) | (simp; omega)) _)⟩
set_option maxRecDepth 100000 in
theorem fnExactIsDay_lifted (os : Os) (started : os.Started) (H : Type) (enc : TypeId × Value → H) :
    ReturnsInHanded {} Try.checked os 3 .any (Rows.fnExactIsDaySpec.pre6 enc Try.prog Try.f3 Rows.fnExactIsDayRow.domain false) (Rows.fnExactIsDaySpec.post enc Try.prog Try.f3 false true false false) := by
  refine returnsInHanded_of_change (C := Try.checked) ownKnobNone started (by kernel_rfl) Try.func3
    (ChangeSpec.witness6 (enc := enc) (C := Try.checked) false ⟨#[], #[.agg #[.int .i64 0, .int .i64 0, .int .i64 0, .int .i64 0]], []⟩ 8 (by kernel_rfl) (by kernel_rfl) (by kernel_rfl) (by kernel_rfl)) ?_
  intro W base args ds gs before hval0 hW hcnd _
  have hval : ∀ (j : Nat) t v, Try.f3.params[j]? = some t → args[j]? = some v → Value.okWide Try.prog W .any base t v := hval0
  have hW' := hW
  obtain ⟨p, q, hA0, hV, rfl, hfz, hnd⟩ := hW
  have hA : DataW.TrodAll enc Try.prog W 0 (fun _ => true) true Try.f3.params.toList args.toList ds p := hA0
  have hAk := hA
  rw [Try.params3] at hA hval
  obtain ⟨v0, vs0, d0, ds0, p0, q0, hargs, rfl, rfl, h0, r0⟩ := trodAll_cons hA
  obtain ⟨rfl, rfl, rfl⟩ := trodAll_nil r0
  obtain rfl : args = #[v0] := by cases args; simp_all
  obtain ⟨rfl, rfl⟩ := trodVars_none hV
  obtain ⟨c0_0, c0_1, c0_2, c0_3, y0_0, y0_1, y0_2, y0_3, m0, rfl, hd0, hp0, e0_0, e0_1, e0_2, e0_3⟩ := Go.Joins.open_agg4 Try.underlying23 (by kernel_rfl) (by kernel_rfl) (hval 0 23 v0 rfl rfl) h0
  obtain ⟨x0_0, z0_0, _, w0_0⟩ := DataW.trod_int Try.underlying3 e0_0
  simp at z0_0; subst z0_0
  have b0_0 := wfI w0_0
  obtain ⟨x0_1, z0_1, _, w0_1⟩ := DataW.trod_int Try.underlying3 e0_1
  simp at z0_1; subst z0_1
  have b0_1 := wfI w0_1
  obtain ⟨x0_2, z0_2, _, w0_2⟩ := DataW.trod_int Try.underlying3 e0_2
  simp at z0_2; subst z0_2
  have b0_2 := wfI w0_2
  obtain ⟨x0_3, z0_3, _, w0_3⟩ := DataW.trod_int Try.underlying3 e0_3
  simp at z0_3; subst z0_3
  have b0_3 := wfI w0_3
  refine (law_IsDay _ _ _ _ _).mono fun e W' hh => ?_
  obtain ⟨he, bel⟩ := hh
  subst he
  exact ⟨_, rfl, _, _, _, [], _, [], hW', trodAll_mk1 (shut_bool Try.underlying4 _), trodAll_below laidOutAll bel _ _ _ _ (by rw [tsOk, Try.params3]; kernel_rfl) hAk, rfl, bel.frame _, fun h => by cases h⟩
theorem fnExactIsDay_holds : Rows.FnExactIsDaySaid :=
  OpenClaim.holds_of_wide 3 Try.f3 rfl rfl rfl rfl rfl rfl rfl ⟨rfl, rfl, rfl, rfl, rfl⟩ rfl rfl rfl rfl rfl (by kernel_rfl) Try.func3 (by kernel_rfl)
    (of_decide_eq_true (by kernel_rfl)) (by unfold Func.isWrapper; first | (rw [if_pos (by decide +kernel)]; kernel_rfl) | (rw [if_neg (by decide +kernel)]; exact ⟨rfl, rfl⟩))
    (fun os started H enc _ => fnExactIsDay_lifted os started H enc)
end Go.Proofs.Ytjiidlnhhdkejaa
