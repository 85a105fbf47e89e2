/- The law FnExactWarmUpGroups returns true for every input. Conditions: none. -/
import Derived.Test.YtjiidlnhhdkejaaGroups
import Derived.Test.YtjiidlnhhdkejaaLift
set_option linter.unusedVariables false
set_option linter.unusedSimpArgs false
namespace Go.Proofs.Ytjiidlnhhdkejaa
open Go.ChangeShapes Go.WideShapes Go.ChangeAt Go.RowKit
set_option maxHeartbeats 1000000 in
theorem law_WarmUpGroups (n size : Int) (w : World) :
    Calls Try.prog 5 #[.int .i64 n, .int .i64 size] w fun e w' => e = .returned (.bool true) ∧ Below w.heap.size w w' := by
  have hL := groupsV_len n size
  go_enter Try.func5, Try.ntmps5
  go_wp2_with fail
  refine (specWarmUpGroups_any _ _ _).mono ?_
  rintro e w1 ⟨A0, n0, c0, x0, rfl, rfl, o0⟩
  go_wp2_with fail
  refine (implWarmUpGroups_any _ _ _).mono ?_
  rintro e w2 ⟨A1, n1, c1, x1, rfl, rfl, o1⟩
  have hn1 : n1 ≤ 40 := by have := o1.len; omega
  go_wp2_with fail
  refine (eqIntS_any _ _ _ _ _ _ _ _ _ o1.rd (o0.rd.below (ext_below _ _)) (by omega)).mono ?_
  rintro e w3 ⟨rfl, x2, rfl⟩
  go_wp2_with fail
  refine (markIntS_any _ _ _ _ _ _ _ (o1.below (ext_below _ _)) (by omega) (by omega) (by omega)).mono ?_
  rintro e w4 ⟨rfl, o1', hg⟩
  have hb4 : Below (ext w x0).heap.size (ext w x0) w4 := below_grown (by repeat (first | exact Below.refl _ _ | assumption | refine bExt ?_ _ | refine bAlloc ?_ _ | refine bDrewN ?_ _ | refine bDrew ?_ | refine bSet ?_ (by first | exact Nat.le_refl _ | omega | (simp; done) | (simp; omega)) _)) hg (fun g hg => (o1.blk hg).1)
  go_wp2_with fail
  refine (heldIntS_any _ _ _ _ _ _ o1'.rd (by omega) (by omega) (by omega) rfl).mono ?_
  rintro e w5 ⟨rfl, rfl⟩
  have hp : ¬ (1 : Int) + n1 < 0 := by omega
  go_wp2_with fail
  refine (implWarmUpGroups_any _ _ _).mono ?_
  rintro e w6 ⟨A2, n2, c2, x3, rfl, rfl, o2⟩
  have hn2 : n2 ≤ 40 := by have := o2.len; omega
  go_wp2_with fail
  refine (eqIntS_any _ _ _ _ _ _ _ _ _ o2.rd (o0.rd.below (bExt hb4 _)) (by omega)).mono ?_
  rintro e w7 ⟨rfl, x4, rfl⟩
  go_wp2_with fail
  refine (heldIntS_any _ _ _ _ _ _ (o1'.rd.below (by repeat (first | exact Below.refl _ _ | assumption | refine bExt ?_ _ | refine bAlloc ?_ _ | refine bDrewN ?_ _ | refine bDrew ?_ | refine bSet ?_ (by first | exact Nat.le_refl _ | omega | (simp; done) | (simp; omega)) _))) (by omega) (by omega) (by omega) rfl).mono ?_
  rintro e w8 ⟨rfl, rfl⟩
  go_wp2_with fail
  go_ret
  exact ⟨rfl, bExt (bExt ((ext_below _ _).trans (hb4.mono (ext_le _ _))) _) _⟩
set_option maxRecDepth 100000 in
theorem fnExactWarmUpGroups_lifted (os : Os) (started : os.Started) (H : Type) (enc : TypeId × Value → H) :
    ReturnsInHanded {} Try.checked os 5 .any (Rows.fnExactWarmUpGroupsSpec.pre6 enc Try.prog Try.f5 Rows.fnExactWarmUpGroupsRow.domain false) (Rows.fnExactWarmUpGroupsSpec.post enc Try.prog Try.f5 false true false false) := by
  refine returnsInHanded_of_change (C := Try.checked) ownKnobNone started (by kernel_rfl) Try.func5
    (ChangeSpec.witness6 (enc := enc) (C := Try.checked) false ⟨#[], #[.int .i64 0, .int .i64 0], []⟩ 8 (by kernel_rfl) (by kernel_rfl) (by kernel_rfl) (by kernel_rfl)) ?_
  intro W base args ds gs before hval0 hW hcnd _
  have hval : ∀ (j : Nat) t v, Try.f5.params[j]? = some t → args[j]? = some v → Value.okWide Try.prog W .any base t v := hval0
  have hW' := hW
  obtain ⟨p, q, hA0, hV, rfl, hfz, hnd⟩ := hW
  have hA : DataW.TrodAll enc Try.prog W 0 (fun _ => true) true Try.f5.params.toList args.toList ds p := hA0
  have hAk := hA
  rw [Try.params5] at hA hval
  obtain ⟨v0, vs0, d0, ds0, p0, q0, hargs, rfl, rfl, h0, r0⟩ := trodAll_cons hA
  obtain ⟨v1, vs1, d1, ds1, p1, q1, rfl, rfl, rfl, h1, r1⟩ := trodAll_cons r0
  obtain ⟨rfl, rfl, rfl⟩ := trodAll_nil r1
  obtain rfl : args = #[v0, v1] := by cases args; simp_all
  obtain ⟨rfl, rfl⟩ := trodVars_none hV
  obtain ⟨a0, rfl, rfl, rfl, w0⟩ := open_int Try.underlying3 (hval 0 3 v0 rfl rfl) h0
  have b0 := wfI w0
  obtain ⟨a1, rfl, rfl, rfl, w1⟩ := open_int Try.underlying3 (hval 1 3 v1 rfl rfl) h1
  have b1 := wfI w1
  refine (law_WarmUpGroups _ _ _).mono fun e W' hh => ?_
  obtain ⟨he, bel⟩ := hh
  subst he
  exact ⟨_, rfl, _, _, _, [], _, [], hW', trodAll_mk1 (shut_bool Try.underlying4 _), trodAll_below laidOutAll bel _ _ _ _ (by rw [tsOk, Try.params5]; kernel_rfl) hAk, rfl, bel.frame _, fun h => by cases h⟩
theorem fnExactWarmUpGroups_holds : Rows.FnExactWarmUpGroupsSaid :=
  OpenClaim.holds_of_wide 5 Try.f5 rfl rfl rfl rfl rfl rfl rfl ⟨rfl, rfl, rfl, rfl, rfl⟩ rfl rfl rfl rfl rfl (by kernel_rfl) Try.func5 (by kernel_rfl)
    (of_decide_eq_true (by kernel_rfl)) (by unfold Func.isWrapper; first | (rw [if_pos (by decide +kernel)]; kernel_rfl) | (rw [if_neg (by decide +kernel)]; exact ⟨rfl, rfl⟩))
    (fun os started H enc _ => fnExactWarmUpGroups_lifted os started H enc)
end Go.Proofs.Ytjiidlnhhdkejaa
