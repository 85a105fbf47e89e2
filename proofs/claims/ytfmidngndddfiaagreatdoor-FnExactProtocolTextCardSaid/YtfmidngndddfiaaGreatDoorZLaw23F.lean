/- The row and the card of FnExactProtocolText. Conditions: none. -/
import Derived.Test.YtfmidngndddfiaaGreatDoorZLaw23E
import Derived.Test.YtfmidngndddfiaaGreatDoorDoorS
import Derived.Test.YtfmidngndddfiaaGreatDoorLift
import Derived.Test.YtfmidngndddfiaaGreatDoorCards
import Derived.Test.YtfmidngndddfiaaGreatDoorTie
import Derived.Deep.DeepHandedRow
set_option linter.unusedVariables false
set_option linter.unusedSimpArgs false
set_option maxRecDepth 100000
namespace Go.Proofs.YtfmidngndddfiaaGreatDoor
open Go.ChangeShapes Go.WideShapes Go.ChangeAt Go.RowKit
set_option maxRecDepth 100000 in
theorem fnExactProtocolText_contract (H : Type) (enc : TypeId × Value → H) (W : World) (base : Nat) (args : Array Value) (ds gs : List (DataW H)) (before : List MemPlace)
    (hval : ∀ (j : Nat) t v, Tryz.f5.params[j]? = some t → args[j]? = some v → Value.okWide Tryz.prog W .any base t v)
    (hW : DataW.Whole enc Tryz.prog Tryz.f5.params.toList Rows.fnExactProtocolTextSpec.vars false W args.toList ds gs before) (hL : Tab W) (hS : Sgn W) :
    Calls Tryz.prog 5 args W fun e W' => ∃ v, e = .returned v ∧ Rows.fnExactProtocolTextSpec.post enc Tryz.prog Tryz.f5 false true false false W args v W' := by
  have hW' := hW
  obtain ⟨p, q, hA0, hV, rfl, hfz, hnd⟩ := hW
  have hA : DataW.TrodAll enc Tryz.prog W 0 (fun _ => true) true Tryz.f5.params.toList args.toList ds p := hA0
  have hAk := hA
  rw [Tryz.params5] at hA hval
  obtain ⟨v0, vs0, d0, ds0, p0, q0, hargs, rfl, rfl, h0, r0⟩ := trodAll_cons hA
  obtain ⟨v1, vs1, d1, ds1, p1, q1, rfl, rfl, rfl, h1, r1⟩ := trodAll_cons r0
  obtain ⟨v2, vs2, d2, ds2, p2, q2, rfl, rfl, rfl, h2, r2⟩ := trodAll_cons r1
  obtain ⟨v3, vs3, d3, ds3, p3, q3, rfl, rfl, rfl, h3, r3⟩ := trodAll_cons r2
  obtain ⟨rfl, rfl, rfl⟩ := trodAll_nil r3
  obtain rfl : args = #[v0, v1, v2, v3] := by cases args; simp_all
  obtain ⟨A_0, n_0, c_0, B_0, m_0, e_0, els_0, lims_0, q0_0, q1_0, q2_0, q3_0, rfl, gE0, gL0, gn0, gm0, gs0⟩ := open_Code (hval 0 25 v0 rfl rfl) h0
  obtain ⟨I_1, n2_1, c2_1, GA_1, gn_1, gc_1, KA_1, kn_1, kc_1, its_1, gg_1, kk_1, s1_1, s2_1, s3_1, rfl, ⟨gI1, gc1, gi1, gt1⟩, ⟨gG1, gg1⟩, gK1, gk1⟩ := open_Perf (hval 1 33 v1 rfl rfl) h1
  obtain ⟨a2, rfl, rfl, rfl, w2⟩ := open_int Tryz.underlying3 (hval 2 3 v2 rfl rfl) h2
  have b2 := wfI w2
  obtain ⟨a3, rfl, rfl, rfl, w3⟩ := open_int Tryz.underlying3 (hval 3 3 v3 rfl rfl) h3
  have b3 := wfI w3
  refine (law_ProtocolText W _ _ _ _ _ _ _ _ _ _ _ _ _ _ _ _ _ _ _ _ _ _ _ _ _ _ _ gE0 gL0 gn0 gm0 gs0 gI1 gc1 gi1 gt1 gG1 gg1 gK1 gk1 _ _ hL hS).mono fun e W' hh => ?_
  obtain ⟨he, bel⟩ := hh
  subst he
  obtain ⟨gd, qs, rfl, hvv⟩ := sgnVars (sp := fun b => decide (b < W.heap.size)) hV hS bel
  exact ⟨_, rfl, _, _, _, [], _, qs, hW', trodAll_mk1 (shut_bool Tryz.underlying4 _), trodAll_below laidOutAll bel _ _ _ _ (by rw [tsOk, Tryz.params5]; kernel_rfl) hAk, hvv, bel.frame _, fun h => by cases h⟩
theorem fnExactProtocolText_met (os : Os) : laidMet Tryz.prog Rows.fnExactProtocolTextRow.laid ((laidWorld4 os).forCall (fun _ _ => 0) ⟨#[], #[.agg #[.slice none 0 0, .slice none 0 0, .int .i64 0, .int .i64 0, .int .i64 0, .int .i64 0], .agg #[.slice none 0 0, .slice none 0 0, .slice none 0 0, .int .i64 0, .int .i64 0, .int .i64 0], .int .i64 0, .int .i64 0], []⟩).memory :=
  laidMet_of_run' 8 (by kernel_rfl) (by kernel_rfl)
theorem fnExactProtocolText_reads (os : Os) {H : Type} (enc : TypeId × Value → H) : ∃ places, DataW.whole enc Tryz.prog ((laidWorld4 os).forCall (fun _ _ => 0) ⟨#[], #[.agg #[.slice none 0 0, .slice none 0 0, .int .i64 0, .int .i64 0, .int .i64 0, .int .i64 0], .agg #[.slice none 0 0, .slice none 0 0, .slice none 0 0, .int .i64 0, .int .i64 0, .int .i64 0], .int .i64 0, .int .i64 0], []⟩).memory Tryz.f5.params.toList Rows.fnExactProtocolTextSpec.vars false (#[.agg #[.slice none 0 0, .slice none 0 0, .int .i64 0, .int .i64 0, .int .i64 0, .int .i64 0], .agg #[.slice none 0 0, .slice none 0 0, .slice none 0 0, .int .i64 0, .int .i64 0, .int .i64 0], .int .i64 0, .int .i64 0] : Array Value).toList 8 = some ([.agg [.nil, .nil, .lit (.int .i64 0), .lit (.int .i64 0), .lit (.int .i64 0), .lit (.int .i64 0)], .agg [.nil, .agg [.nil, .nil], .agg [.lit (.int .i64 0), .lit (.int .i64 0), .lit (.int .i64 0)]], .lit (.int .i64 0), .lit (.int .i64 0)], [.agg [.lit (.string []), .lit (.string [60]), .lit (.string [101]), .lit (.string [42])]], places) :=
  ⟨MemPlace.row ⟨0, 0, none⟩ 4, by kernel_rfl⟩
set_option maxRecDepth 100000 in
theorem fnExactProtocolText_lifted (os : Os) (started : os.Started) (H : Type) (enc : TypeId × Value → H) (F : Stop.Interp) :
    ReturnsInHanded {} Tryz.checked os 5 .any ((OpenSpec.ofChange Rows.fnExactProtocolTextSpec).preRow enc Tryz.prog Tryz.f5 Rows.fnExactProtocolTextRow.domain false Rows.fnExactProtocolTextRow.laid) (((OpenSpec.ofChange Rows.fnExactProtocolTextSpec).at F).post enc Tryz.prog Tryz.f5 false true false false) := by
  obtain ⟨places, hx⟩ := fnExactProtocolText_reads os enc
  refine returnsInHanded_of_row (C := Tryz.checked) (s := OpenSpec.ofChange Rows.fnExactProtocolTextSpec) own started (by kernel_rfl) Tryz.func5
    (witness_row_at (enc := enc) (C := Tryz.checked) false (laidWorld4 os) #[.agg #[.slice none 0 0, .slice none 0 0, .int .i64 0, .int .i64 0, .int .i64 0, .int .i64 0], .agg #[.slice none 0 0, .slice none 0 0, .slice none 0 0, .int .i64 0, .int .i64 0, .int .i64 0], .int .i64 0, .int .i64 0] rfl (by kernel_rfl) (by kernel_rfl) (by kernel_rfl)
      (OpenSpec.preRow_of_cond 8 hx (by kernel_rfl) (fun k hk => by cases hk) (by kernel_rfl) (fnExactProtocolText_met os))) ?_
  intro W base args ds gs before hval hW _ _ _ hL _ _
  exact fnExactProtocolText_contract H enc W base args ds gs before hval hW (tab_of_laid4 hL) (sgn_of_laid hL)
theorem fnExactProtocolText_said : Rows.FnExactProtocolTextSaid :=
  OpenClaim.holds_of_cond 5 Tryz.f5 rfl rfl rfl rfl rfl rfl rfl ⟨rfl, rfl, rfl, rfl, rfl⟩ rfl rfl rfl rfl rfl (by kernel_rfl) Tryz.func5 (by kernel_rfl)
    (of_decide_eq_true (by kernel_rfl)) (by unfold Func.isWrapper; first | (rw [if_pos (by decide +kernel)]; kernel_rfl) | (rw [if_neg (by decide +kernel)]; exact ⟨rfl, rfl⟩))
    (fun os started H enc _ F => by rw [OpenClaim.pre_eq_preRow]; exact fnExactProtocolText_lifted os started H enc F)
theorem fnExactProtocolText_plain (f : FuncId) (fn : Func) (hf : Tryz.pinned.checked.prog.funcNamed "loop.example/g00912/laws.FnExactProtocolText" = some f) (hfn : Tryz.pinned.checked.prog.funcs[f]? = some fn) :
    false = Tryz.pinned.checked.prog.looks [] ∧ ∀ (j : Nat) t, fn.params[j]? = some t → Tryz.pinned.checked.prog.wantsStandIn t = false := by
  obtain rfl : f = 5 := Option.some.inj ((show Tryz.prog.funcNamed "loop.example/g00912/laws.FnExactProtocolText" = some 5 by kernel_rfl).symm.trans hf) |>.symm
  obtain rfl : fn = Tryz.f5 := (Option.some.inj (Tryz.func5.symm.trans hfn)).symm
  refine ⟨by kernel_rfl, fun j t ht => ?_⟩
  have hall : ∀ t ∈ Tryz.f5.params.toList, Tryz.prog.wantsStandIn t = false := by rw [Tryz.params5]; intro t ht; simp at ht; first | (subst ht; kernel_rfl) | (rcases ht with rfl | rfl <;> kernel_rfl) | (rcases ht with rfl | rfl | rfl <;> kernel_rfl)
  exact hall t (Array.mem_toList_iff.2 (Array.mem_of_getElem? ht))
theorem fnExactProtocolText_holds : Rows.FnExactProtocolTextCardSaid :=
  Claim7.holds_tied_plain_at .later [] _ _ _ _ fnExactProtocolText_said (fun _ h => by cases h) (by kernel_rfl) (fun _ h => by cases h) fnExactProtocolText_row_tie rfl ⟨rfl, rfl⟩ (by kernel_rfl) rfl fnExactProtocolText_plain (by kernel_rfl)
end Go.Proofs.YtfmidngndddfiaaGreatDoor
