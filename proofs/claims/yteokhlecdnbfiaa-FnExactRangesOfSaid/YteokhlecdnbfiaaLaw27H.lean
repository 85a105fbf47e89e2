/- The law FnExactRangesOf returns true for every input. Conditions: none. -/
import Derived.Test.YteokhlecdnbfiaaRanges
import Derived.Test.YteokhlecdnbfiaaMarks5
import Derived.Deep.RegionHeld3
set_option linter.unusedVariables false
set_option linter.unusedSimpArgs false
namespace Go.Proofs.Yteokhlecdnbfiaa
open Go.ChangeShapes Go.WideShapes Go.ChangeAt Go.RowKit
set_option maxHeartbeats 2000000 in
theorem law_RangesOf (w : World) (A B : Option Addr) (n m c d : Nat) (gg kk : List (List Int)) (hA : RdM w A n gg) (hB : RdM w B m kk) (hn9 : n ≤ 9223372036854775807) (hm9 : m ≤ 9223372036854775807) :
    Calls Try.prog 11 #[.agg #[.slice A n c, .slice B m d]] w fun e w' => e = .returned (.bool true) ∧ Below w.heap.size w w' := by
  have hbx : Below w.heap.size w (w.alloc (.cells #[.slice A n c, .slice B m d] 35)) := by repeat (first | exact Below.refl _ _ | assumption | refine bExt ?_ _ | refine bAlloc ?_ _ | refine bDrewN ?_ _ | refine bDrew ?_ | refine bSet ?_ (by first | exact Nat.le_refl _ | omega | (simp; done) | (simp; omega)) _)
  have cz := szMarks_any (w.alloc (.cells #[.slice A n c, .slice B m d] 35)) A B n m c d 1048576 gg kk (by omega) (by omega) hn9 hm9 (hA.below hbx) (hB.below hbx)
  by_cases hs : (1048576 : Int) < mTotal gg + mTotal kk
  · rw [szW, if_pos hs] at cz
    go_enter Try.func11, Try.ntmps11
    go_wp2_with fail
    refine cz.mono ?_
    rintro e w1 ⟨rfl, x0, rfl⟩
    go_wp2_with fail
    go_ret
    exact ⟨rfl, by repeat (first | exact Below.refl _ _ | assumption | refine bExt ?_ _ | refine bAlloc ?_ _ | refine bDrewN ?_ _ | refine bDrew ?_ | refine bSet ?_ (by first | exact Nat.le_refl _ | omega | (simp; done) | (simp; omega)) _)⟩
  have hmk := RdMk.of_rd hA hB (by omega)
  rw [szW, if_neg hs] at cz
  have hlt : ¬ (1048576 - (mTotal gg + mTotal kk) : Int) < 0 := by omega
  have HS := Lib.hid (show mTotal gg + mTotal kk ≤ 1048576 by omega)
  have hge := lenSum_nonneg gg
  have hke := lenSum_nonneg kk
  have hr0 : (rangesV gg kk).length ≤ 1048576 := Nat.le_trans (rangesV_len _ _) (by omega)
  go_enter Try.func11, Try.ntmps11
  go_wp2_with fail
  refine (cz).mono ?_
  rintro e w1 ⟨rfl, x0, rfl⟩
  go_wp2_with fail
  refine (toMk_any _ _ _ _ _ _ _ _ _ (hmk.below (by repeat (first | exact Below.refl _ _ | assumption | refine bExt ?_ _ | refine bAlloc ?_ _ | refine bDrewN ?_ _ | refine bDrew ?_ | refine bSet ?_ (by first | exact Nat.le_refl _ | omega | (simp; done) | (simp; omega)) _)))).mono ?_
  rintro e w1 ⟨A1, n1, c1, B1, m1, d1, x1, rfl, rfl, o1⟩
  go_wp2_with fail
  refine (specRangesOf_any _ _ _ _ _ _ _ _ _ (o1.rd HS.out)).mono ?_
  rintro e w1 ⟨A2, n2, c2, x2, rfl, rfl, o2⟩
  go_wp2_with fail
  refine (toMk_any _ _ _ _ _ _ _ _ _ (hmk.below (by repeat (first | exact Below.refl _ _ | assumption | refine bExt ?_ _ | refine bAlloc ?_ _ | refine bDrewN ?_ _ | refine bDrew ?_ | refine bSet ?_ (by first | exact Nat.le_refl _ | omega | (simp; done) | (simp; omega)) _)))).mono ?_
  rintro e w1 ⟨A3, n3, c3, B3, m3, d3, x3, rfl, rfl, o3⟩
  obtain ⟨z, hz⟩ := ext_ex (show Below (w.alloc (.cells #[.slice A n c, .slice B m d] 35)).heap.size (w.alloc (.cells #[.slice A n c, .slice B m d] 35)) (ext (ext (ext (ext (w.alloc (.cells #[.slice A n c, .slice B m d] 35)) x0) x1) x2) x3) from by repeat (first | exact Below.refl _ _ | assumption | refine bExt ?_ _ | refine bAlloc ?_ _ | refine bDrewN ?_ _ | refine bDrew ?_ | refine bSet ?_ (by first | exact Nat.le_refl _ | omega | (simp; done) | (simp; omega)) _))
  have h23 : Below (ext (ext (ext (w.alloc (.cells #[.slice A n c, .slice B m d] 35)) x0) x1) x2).heap.size (ext (ext (ext (w.alloc (.cells #[.slice A n c, .slice B m d] 35)) x0) x1) x2) (ext (w.alloc (.cells #[.slice A n c, .slice B m d] 35)) z) := by rw [← hz]; exact ext_below _ _
  rw [hz] at o3 ⊢
  have hlo : (w.alloc (.cells #[.slice A n c, .slice B m d] 35)).heap.size ≤ (ext (ext (ext (w.alloc (.cells #[.slice A n c, .slice B m d] 35)) x0) x1) x2).heap.size := base_le (by repeat (first | exact Below.refl _ _ | assumption | refine bExt ?_ _ | refine bAlloc ?_ _ | refine bDrewN ?_ _ | refine bDrew ?_ | refine bSet ?_ (by first | exact Nat.le_refl _ | omega | (simp; done) | (simp; omega)) _))
  clear hz
  go_wp2_with fail
  refine (implRangesOf_any _ _ _ _ _ _ _ _ _ ((o3.rd HS.out).below (by repeat (first | exact Below.refl _ _ | assumption | refine bExt ?_ _ | refine bAlloc ?_ _ | refine bDrewN ?_ _ | refine bDrew ?_ | refine bSet ?_ (by first | exact Nat.le_refl _ | omega | (simp; done) | (simp; omega)) _)))).mono ?_
  rintro e w1 ⟨A4, n4, c4, x4, rfl, rfl, o4⟩
  go_wp2_with fail
  refine (eqIntS_any _ _ _ _ _ _ _ _ _ (o4.rd.below (by repeat (first | exact Below.refl _ _ | assumption | refine bExt ?_ _ | refine bAlloc ?_ _ | refine bDrewN ?_ _ | refine bDrew ?_ | refine bSet ?_ (by first | exact Nat.le_refl _ | omega | (simp; done) | (simp; omega)) _))) ((o2.rd.below h23).below (by repeat (first | exact Below.refl _ _ | assumption | refine bExt ?_ _ | refine bAlloc ?_ _ | refine bDrewN ?_ _ | refine bDrew ?_ | refine bSet ?_ (by first | exact Nat.le_refl _ | omega | (simp; done) | (simp; omega)) _))) (bdI o4 hr0)).mono ?_
  rintro e w1 ⟨rfl, x5, rfl⟩
  go_wp2_with fail
  go_region_held3 (fun w' => w'.cell? ⟨w.heap.size, 0, none⟩ = some (.slice A n c) ∧ w'.cell? ⟨w.heap.size, 1, none⟩ = some (.slice B m d) ∧ w'.cell? ⟨(ext (w.alloc (.cells #[.slice A n c, .slice B m d] 35)) z).heap.size, 0, none⟩ = some (.slice A3 n3 c3) ∧ w'.cell? ⟨(ext (w.alloc (.cells #[.slice A n c, .slice B m d] 35)) z).heap.size, 1, none⟩ = some (.slice B3 m3 d3)) (refine ⟨?_, ?_, ?_, ?_⟩ <;> simp [go_sem])
    (first
      | (go_at_call 27; ((with_reducible refine (toMk_any _ _ _ _ _ _ _ _ _ (hmk.below (by repeat (first | exact Below.refl _ _ | assumption | refine bExt ?_ _ | refine bAlloc ?_ _ | refine bDrewN ?_ _ | refine bDrew ?_ | refine bSet ?_ (by first | exact Nat.le_refl _ | omega | (simp; done) | (simp; omega)) _)))).mono ?_); rintro e w' ⟨A6, n6, c6, B6, m6, d6, x6, rfl, rfl, o6⟩))
      | (go_at_call 29; ((with_reducible refine (eqMk_any _ _ _ _ _ _ _ _ _ _ _ _ _ _ _ ((o3.rd HS.out).below (by repeat (first | exact Below.refl _ _ | assumption | refine bExt ?_ _ | refine bAlloc ?_ _ | refine bDrewN ?_ _ | refine bDrew ?_ | refine bSet ?_ (by first | exact Nat.le_refl _ | omega | (simp; done) | (simp; omega)) _))) (o6.rd HS.out)).mono ?_); rintro e w' ⟨rfl, x7, rfl⟩)))
  go_wp2_with fail
  refine (markMk_any _ _ _ _ _ _ _ _ _ _ _ _ (o3.below (by repeat (first | exact Below.refl _ _ | assumption | refine bExt ?_ _ | refine bAlloc ?_ _ | refine bDrewN ?_ _ | refine bDrew ?_ | refine bSet ?_ (by first | exact Nat.le_refl _ | omega | (simp; done) | (simp; omega)) _))) HS.out (base_le (by repeat (first | exact Below.refl _ _ | assumption | refine bExt ?_ _ | refine bAlloc ?_ _ | refine bDrewN ?_ _ | refine bDrew ?_ | refine bSet ?_ (by first | exact Nat.le_refl _ | omega | (simp; done) | (simp; omega)) _))) rfl).mono ?_
  rintro e w1 ⟨rfl, hmid⟩
  have hB0 : Below (w.alloc (.cells #[.slice A n c, .slice B m d] 35)).heap.size (w.alloc (.cells #[.slice A n c, .slice B m d] 35)) w1 := hmid.below (by repeat (first | exact Below.refl _ _ | assumption | refine bExt ?_ _ | refine bAlloc ?_ _ | refine bDrewN ?_ _ | refine bDrew ?_ | refine bSet ?_ (by first | exact Nat.le_refl _ | omega | (simp; done) | (simp; omega)) _)) hlo
  have g4 := (o4.below (by repeat (first | exact Below.refl _ _ | assumption | refine bExt ?_ _ | refine bAlloc ?_ _ | refine bDrewN ?_ _ | refine bDrew ?_ | refine bSet ?_ (by first | exact Nat.le_refl _ | omega | (simp; done) | (simp; omega)) _))).keptM hmid (fun g hg => .inr (Nat.le_trans (base_le (by repeat (first | exact Below.refl _ _ | assumption | refine bExt ?_ _ | refine bAlloc ?_ _ | refine bDrewN ?_ _ | refine bDrew ?_ | refine bSet ?_ (by first | exact Nat.le_refl _ | omega | (simp; done) | (simp; omega)) _))) (o4.blk hg).1))
  have g2 := ((o2.below h23).below (by repeat (first | exact Below.refl _ _ | assumption | refine bExt ?_ _ | refine bAlloc ?_ _ | refine bDrewN ?_ _ | refine bDrew ?_ | refine bSet ?_ (by first | exact Nat.le_refl _ | omega | (simp; done) | (simp; omega)) _))).keptM hmid (fun g hg => .inl (o2.blk hg).2)
  obtain ⟨y, rfl⟩ := ext_ex hB0
  clear hmid
  have hp : ¬ (1 + lenSum gg + lenSum kk : Int) < 0 := by omega
  go_wp2_with fail
  refine (eqIntS_any _ _ _ _ _ _ _ _ _ g4.rd g2.rd (bdI o4 hr0)).mono ?_
  rintro e w1 ⟨rfl, x8, rfl⟩
  have hb9 := bdI o4 hr0
  have hv9 : n4 ≤ 1048576 := by have h1 := o4.len; omega
  go_wp2_with fail
  refine (markIntS_any _ _ _ _ _ _ _ (g4.below (by repeat (first | exact Below.refl _ _ | assumption | refine bExt ?_ _ | refine bAlloc ?_ _ | refine bDrewN ?_ _ | refine bDrew ?_ | refine bSet ?_ (by first | exact Nat.le_refl _ | omega | (simp; done) | (simp; omega)) _))) hb9 (by omega) (by omega)).mono ?_
  rintro e wm ⟨rfl, om, hgm⟩
  have hBm : Below (w.alloc (.cells #[.slice A n c, .slice B m d] 35)).heap.size (w.alloc (.cells #[.slice A n c, .slice B m d] 35)) wm := below_grown (by repeat (first | exact Below.refl _ _ | assumption | refine bExt ?_ _ | refine bAlloc ?_ _ | refine bDrewN ?_ _ | refine bDrew ?_ | refine bSet ?_ (by first | exact Nat.le_refl _ | omega | (simp; done) | (simp; omega)) _)) hgm (fun g hg => Nat.le_trans (base_le (by repeat (first | exact Below.refl _ _ | assumption | refine bExt ?_ _ | refine bAlloc ?_ _ | refine bDrewN ?_ _ | refine bDrew ?_ | refine bSet ?_ (by first | exact Nat.le_refl _ | omega | (simp; done) | (simp; omega)) _))) (o4.blk hg).1)
  have k2 := (g2.below (by repeat (first | exact Below.refl _ _ | assumption | refine bExt ?_ _ | refine bAlloc ?_ _ | refine bDrewN ?_ _ | refine bDrew ?_ | refine bSet ?_ (by first | exact Nat.le_refl _ | omega | (simp; done) | (simp; omega)) _))).kept hgm (ne_before ((o2.below h23).below (by repeat (first | exact Below.refl _ _ | assumption | refine bExt ?_ _ | refine bAlloc ?_ _ | refine bDrewN ?_ _ | refine bDrew ?_ | refine bSet ?_ (by first | exact Nat.le_refl _ | omega | (simp; done) | (simp; omega)) _))) o4)
  obtain ⟨y2, rfl⟩ := ext_ex hBm
  clear hgm
  go_wp2_with fail
  refine (heldIntS_any _ _ _ _ _ _ om.rd hb9 (by omega) (by omega) rfl).mono ?_
  rintro e w1 ⟨rfl, rfl⟩
  have hp2 : ¬ (1 + n4 : Int) < 0 := by omega
  go_wp2_with fail
  refine (toMk_any _ _ _ _ _ _ _ _ _ (hmk.below (by repeat (first | exact Below.refl _ _ | assumption | refine bExt ?_ _ | refine bAlloc ?_ _ | refine bDrewN ?_ _ | refine bDrew ?_ | refine bSet ?_ (by first | exact Nat.le_refl _ | omega | (simp; done) | (simp; omega)) _)))).mono ?_
  rintro e w1 ⟨A10, n10, c10, B10, m10, d10, x10, rfl, rfl, o10⟩
  go_wp2_with fail
  refine (implRangesOf_any _ _ _ _ _ _ _ _ _ (o10.rd HS.out)).mono ?_
  rintro e w1 ⟨A11, n11, c11, x11, rfl, rfl, o11⟩
  go_wp2_with fail
  refine (eqIntS_any _ _ _ _ _ _ _ _ _ (o11.rd.below (by repeat (first | exact Below.refl _ _ | assumption | refine bExt ?_ _ | refine bAlloc ?_ _ | refine bDrewN ?_ _ | refine bDrew ?_ | refine bSet ?_ (by first | exact Nat.le_refl _ | omega | (simp; done) | (simp; omega)) _))) (k2.rd.below (by repeat (first | exact Below.refl _ _ | assumption | refine bExt ?_ _ | refine bAlloc ?_ _ | refine bDrewN ?_ _ | refine bDrew ?_ | refine bSet ?_ (by first | exact Nat.le_refl _ | omega | (simp; done) | (simp; omega)) _))) (bdI o11 hr0)).mono ?_
  rintro e w1 ⟨rfl, x12, rfl⟩
  go_wp2_with fail
  refine (heldIntS_any _ _ _ _ _ _ (om.rd.below (by repeat (first | exact Below.refl _ _ | assumption | refine bExt ?_ _ | refine bAlloc ?_ _ | refine bDrewN ?_ _ | refine bDrew ?_ | refine bSet ?_ (by first | exact Nat.le_refl _ | omega | (simp; done) | (simp; omega)) _))) hb9 (by omega) (by omega) rfl).mono ?_
  rintro e w1 ⟨rfl, rfl⟩
  go_wp2_with fail
  go_ret
  exact ⟨rfl, by repeat (first | exact Below.refl _ _ | assumption | refine bExt ?_ _ | refine bAlloc ?_ _ | refine bDrewN ?_ _ | refine bDrew ?_ | refine bSet ?_ (by first | exact Nat.le_refl _ | omega | (simp; done) | (simp; omega)) _)⟩
set_option maxRecDepth 100000 in
theorem fnExactRangesOf_lifted (os : Os) (started : os.Started) (H : Type) (enc : TypeId × Value → H) :
    ReturnsInHanded {} Try.checked os 11 .any (Rows.fnExactRangesOfSpec.pre6 enc Try.prog Try.f11 Rows.fnExactRangesOfRow.domain false) (Rows.fnExactRangesOfSpec.post enc Try.prog Try.f11 false true false false) := by
  refine returnsInHanded_of_change (C := Try.checked) ownKnobNone started (by kernel_rfl) Try.func11
    (ChangeSpec.witness6 (enc := enc) (C := Try.checked) false ⟨#[], #[.agg #[.slice none 0 0, .slice none 0 0]], []⟩ 8 (by kernel_rfl) (by kernel_rfl) (by kernel_rfl) (by kernel_rfl)) ?_
  intro W base args ds gs before hval0 hW hcnd _
  have hval : ∀ (j : Nat) t v, Try.f11.params[j]? = some t → args[j]? = some v → Value.okWide Try.prog W .any base t v := hval0
  have hW' := hW
  obtain ⟨p, q, hA0, hV, rfl, hfz, hnd⟩ := hW
  have hA : DataW.TrodAll enc Try.prog W 0 (fun _ => true) true Try.f11.params.toList args.toList ds p := hA0
  have hAk := hA
  rw [Try.params11] at hA hval
  obtain ⟨v0, vs0, d0, ds0, p0, q0, hargs, rfl, rfl, h0, r0⟩ := trodAll_cons hA
  obtain ⟨rfl, rfl, rfl⟩ := trodAll_nil r0
  obtain rfl : args = #[v0] := by cases args; simp_all
  obtain ⟨rfl, rfl⟩ := trodVars_none hV
  obtain ⟨s0_0, s0_1, y0_0, y0_1, m0, rfl, hd0, hp0, e0_0, e0_1⟩ := Go.Joins.open_agg2 Try.underlying35 (by kernel_rfl) (by kernel_rfl) (hval 0 35 v0 rfl rfl) h0
  obtain ⟨A0_0, n0_0, c0_0, l0_0, rfl, g0_0, nc0_0, cm0_0⟩ := open_RdM e0_0
  obtain ⟨A0_1, n0_1, c0_1, l0_1, rfl, g0_1, nc0_1, cm0_1⟩ := open_RdM e0_1
  refine (law_RangesOf _ _ _ _ _ _ _ _ _ g0_0 g0_1 (by simp only [maxLen] at cm0_0; omega) (by simp only [maxLen] at cm0_1; omega)).mono fun e W' hh => ?_
  obtain ⟨he, bel⟩ := hh
  subst he
  exact ⟨_, rfl, _, _, _, [], _, [], hW', trodAll_mk1 (shut_bool Try.underlying4 _), trodAll_below laidOutAll bel _ _ _ _ (by rw [tsOk, Try.params11]; kernel_rfl) hAk, rfl, bel.frame _, fun h => by cases h⟩
theorem fnExactRangesOf_holds : Rows.FnExactRangesOfSaid :=
  OpenClaim.holds_of_wide 11 Try.f11 rfl rfl rfl rfl rfl rfl rfl ⟨rfl, rfl, rfl, rfl, rfl⟩ rfl rfl rfl rfl rfl (by kernel_rfl) Try.func11 (by kernel_rfl)
    (of_decide_eq_true (by kernel_rfl)) (by unfold Func.isWrapper; first | (rw [if_pos (by decide +kernel)]; kernel_rfl) | (rw [if_neg (by decide +kernel)]; exact ⟨rfl, rfl⟩))
    (fun os started H enc _ => fnExactRangesOf_lifted os started H enc)
end Go.Proofs.Yteokhlecdnbfiaa
