/- The law FnExactAreSlots returns true for every input. Conditions: none. -/
import Derived.Test.YtjiidlnhhdkejaaAreSlots
import Derived.Test.YtjiidlnhhdkejaaLiftSlots
set_option linter.unusedVariables false
set_option linter.unusedSimpArgs false
namespace Go.Proofs.Ytjiidlnhhdkejaa
open Go.ChangeShapes Go.WideShapes Go.ChangeAt Go.RowKit
set_option maxHeartbeats 1000000 in
theorem law_AreSlots (w : World) (A : Option Addr) (n c : Nat) (l : List (Int × Int)) (ha : RdS w A n l) (hn : n ≤ 9223372036854775807) :
    Calls Try.prog 6 #[.slice A n c] w fun e w' => e = .returned (.bool true) ∧ Below w.heap.size w w' := by
  by_cases hs : (1048576 : Int) < n
  · go_enter Try.func6, Try.ntmps6
    go_wp2_with fail
    refine (szSlotS_any _ _ _ _ _ (by omega) (by omega) hn).mono ?_
    rintro e w1 ⟨rfl, rfl⟩
    rw [if_pos hs]
    go_wp2_with fail
    go_ret
    exact ⟨rfl, Below.refl _ _⟩
  · have hn1 : n ≤ 1099511627776 := by omega
    have hd : ¬ (1048576 : Int) - n < 0 := by omega
    go_enter Try.func6, Try.ntmps6
    go_wp2_with fail
    refine (szSlotS_any _ _ _ _ _ (by omega) (by omega) hn).mono ?_
    rintro e w1 ⟨rfl, rfl⟩
    rw [if_neg (by omega)]
    go_wp2_with fail
    refine (toSlotS_any _ _ _ _ _ ha hn1).mono ?_
    rintro e w1 ⟨A1, n1, c1, x1, rfl, rfl, o1⟩
    obtain rfl : n1 = n := o1.len.symm.trans ha.len
    go_wp2_with fail
    refine (specAreSlots_any _ _ _ _ _ o1.rd hn1).mono ?_
    rintro e w1 ⟨rfl, x2, rfl⟩
    go_wp2_with fail
    refine (toSlotS_any _ _ _ _ _ (ha.below (by repeat (first | exact Below.refl _ _ | assumption | refine bExt ?_ _ | refine bAlloc ?_ _ | refine bDrewN ?_ _ | refine bDrew ?_ | refine bSet ?_ (by first | exact Nat.le_refl _ | omega | (simp; done) | (simp; omega)) _))) hn1).mono ?_
    rintro e w1 ⟨A2, n2, c2, x3, rfl, rfl, o2⟩
    obtain rfl : n2 = n1 := o2.len.symm.trans ha.len
    go_wp2_with fail
    refine (implAreSlots_any _ _ _ _ _ o2.rd hn1 (Ow.cap_ o2).1).mono ?_
    rintro e w1 ⟨rfl, x4, rfl⟩
    go_wp2_with fail
    refine (toSlotS_any _ _ _ _ _ (ha.below (by repeat (first | exact Below.refl _ _ | assumption | refine bExt ?_ _ | refine bAlloc ?_ _ | refine bDrewN ?_ _ | refine bDrew ?_ | refine bSet ?_ (by first | exact Nat.le_refl _ | omega | (simp; done) | (simp; omega)) _))) hn1).mono ?_
    rintro e w1 ⟨A3, n3, c3, x5, rfl, rfl, o3⟩
    obtain rfl : n3 = n2 := o3.len.symm.trans ha.len
    go_wp2_with fail
    refine (eqSlotS_any _ _ _ _ _ _ _ (o2.rd.below (by repeat (first | exact Below.refl _ _ | assumption | refine bExt ?_ _ | refine bAlloc ?_ _ | refine bDrewN ?_ _ | refine bDrew ?_ | refine bSet ?_ (by first | exact Nat.le_refl _ | omega | (simp; done) | (simp; omega)) _))) o3.rd hn1).mono ?_
    rintro e w1 ⟨rfl, x6, rfl⟩
    go_wp2_with fail
    go_ret
    exact ⟨rfl, by repeat (first | exact Below.refl _ _ | assumption | refine bExt ?_ _ | refine bAlloc ?_ _ | refine bDrewN ?_ _ | refine bDrew ?_ | refine bSet ?_ (by first | exact Nat.le_refl _ | omega | (simp; done) | (simp; omega)) _)⟩
set_option maxRecDepth 100000 in
theorem fnExactAreSlots_lifted (os : Os) (started : os.Started) (H : Type) (enc : TypeId × Value → H) :
    ReturnsInHanded {} Try.checked os 6 .any (Rows.fnExactAreSlotsSpec.pre6 enc Try.prog Try.f6 Rows.fnExactAreSlotsRow.domain false) (Rows.fnExactAreSlotsSpec.post enc Try.prog Try.f6 false true false false) := by
  refine returnsInHanded_of_change (C := Try.checked) ownKnobNone started (by kernel_rfl) Try.func6
    (ChangeSpec.witness6 (enc := enc) (C := Try.checked) false ⟨#[], #[.slice none 0 0], []⟩ 8 (by kernel_rfl) (by kernel_rfl) (by kernel_rfl) (by kernel_rfl)) ?_
  intro W base args ds gs before hval0 hW hcnd _
  have hval : ∀ (j : Nat) t v, Try.f6.params[j]? = some t → args[j]? = some v → Value.okWide Try.prog W .any base t v := hval0
  have hW' := hW
  obtain ⟨p, q, hA0, hV, rfl, hfz, hnd⟩ := hW
  have hA : DataW.TrodAll enc Try.prog W 0 (fun _ => true) true Try.f6.params.toList args.toList ds p := hA0
  have hAk := hA
  rw [Try.params6] at hA hval
  obtain ⟨v0, vs0, d0, ds0, p0, q0, hargs, rfl, rfl, h0, r0⟩ := trodAll_cons hA
  obtain ⟨rfl, rfl, rfl⟩ := trodAll_nil r0
  obtain rfl : args = #[v0] := by cases args; simp_all
  obtain ⟨rfl, rfl⟩ := trodVars_none hV
  obtain ⟨A0, n0, c0, l0, rfl, g0, nc0, cm0⟩ := open_RdS (hval 0 37 v0 rfl rfl) h0
  refine (law_AreSlots _ _ _ _ _ g0 (by simp only [maxLen] at cm0; omega)).mono fun e W' hh => ?_
  obtain ⟨he, bel⟩ := hh
  subst he
  exact ⟨_, rfl, _, _, _, [], _, [], hW', trodAll_mk1 (shut_bool Try.underlying4 _), trodAll_below laidOutAll bel _ _ _ _ (by rw [tsOk, Try.params6]; kernel_rfl) hAk, rfl, bel.frame _, fun h => by cases h⟩
theorem fnExactAreSlots_holds : Rows.FnExactAreSlotsSaid :=
  OpenClaim.holds_of_wide 6 Try.f6 rfl rfl rfl rfl rfl rfl rfl ⟨rfl, rfl, rfl, rfl, rfl⟩ rfl rfl rfl rfl rfl (by kernel_rfl) Try.func6 (by kernel_rfl)
    (of_decide_eq_true (by kernel_rfl)) (by unfold Func.isWrapper; first | (rw [if_pos (by decide +kernel)]; kernel_rfl) | (rw [if_neg (by decide +kernel)]; exact ⟨rfl, rfl⟩))
    (fun os started H enc _ => fnExactAreSlots_lifted os started H enc)
end Go.Proofs.Ytjiidlnhhdkejaa
