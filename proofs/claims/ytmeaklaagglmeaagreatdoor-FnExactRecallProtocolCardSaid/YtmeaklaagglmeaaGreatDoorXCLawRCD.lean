/- The row and the card of FnExactRecallProtocol. Conditions: none. -/
import Derived.Test.YtmeaklaagglmeaaGreatDoorXCLawRC
import Derived.Test.YtmeaklaagglmeaaGreatDoorXReads
import Derived.Test.YtmeaklaagglmeaaGreatDoorXLift
import Derived.Test.YtmeaklaagglmeaaGreatDoorCards
import Derived.Test.YtmeaklaagglmeaaGreatDoorTie
import Derived.Deep.DeepHandedRow
set_option linter.unusedVariables false
set_option linter.unusedSimpArgs false
set_option maxRecDepth 100000
namespace Go.Proofs.YtmeaklaagglmeaaGreatDoor
open Go.ChangeShapes Go.WideShapes Go.ChangeAt Go.RowKit
set_option maxRecDepth 100000 in
theorem fnExactRecallProtocol_contract (H : Type) (enc : TypeId × Value → H) (W : World) (base : Nat) (args : Array Value) (ds gs : List (DataW H)) (before : List MemPlace)
  (hval : ∀ (j : Nat) t v, Tryz.f9.params[j]? = some t → args[j]? = some v → Value.okWide Tryz.prog W .any base t v)
  (hW : DataW.Whole enc Tryz.prog Tryz.f9.params.toList Rows.fnExactRecallProtocolSpec.vars false W args.toList ds gs before) (hL : Tab W) (hS : Sgn W) (hX : Mxl W) :
  Calls Tryz.prog 9 args W fun e W' => ∃ v, e = .returned v ∧ Rows.fnExactRecallProtocolSpec.post enc Tryz.prog Tryz.f9 false true false false W args v W' := by
 have hW' := hW
 obtain ⟨p, q, hA0, hV, rfl, hfz, hnd⟩ := hW
 have hA : DataW.TrodAll enc Tryz.prog W 0 (fun _ => true) true Tryz.f9.params.toList args.toList ds p := hA0
 have hAk := hA
 rw [Tryz.params9] at hA hval
 obtain ⟨v0, vs0, d0, ds0, p0, q0, hargs, rfl, rfl, h0, r0⟩ := trodAll_cons hA
 obtain ⟨v1, vs1, d1, ds1, p1, q1, rfl, rfl, rfl, h1, r1⟩ := trodAll_cons r0
 obtain ⟨v2, vs2, d2, ds2, p2, q2, rfl, rfl, rfl, h2, r2⟩ := trodAll_cons r1
 obtain ⟨v3, vs3, d3, ds3, p3, q3, rfl, rfl, rfl, h3, r3⟩ := trodAll_cons r2
 obtain ⟨v4, vs4, d4, ds4, p4, q4, rfl, rfl, rfl, h4, r4⟩ := trodAll_cons r3
 obtain ⟨rfl, rfl, rfl⟩ := trodAll_nil r4
 obtain rfl : args = #[v0, v1, v2, v3, v4] := by cases args; simp_all
 obtain ⟨A_0, n_0, c_0, B_0, m_0, e_0, els_0, lims_0, q0_0, q1_0, q2_0, q3_0, rfl, gE0, gL0, gn0, gm0, gs0⟩ := open_Code (hval 0 25 v0 rfl rfl) h0
 obtain ⟨s1, rfl, rfl, rfl, w1⟩ := Go.ChangeMaps.open_string Tryz.underlying9 (hval 1 9 v1 rfl rfl) h1
 obtain ⟨a2, rfl, rfl, rfl, w2⟩ := open_int Tryz.underlying3 (hval 2 3 v2 rfl rfl) h2
 have b2 := wfI w2
 obtain ⟨a3, rfl, rfl, rfl, w3⟩ := open_int Tryz.underlying3 (hval 3 3 v3 rfl rfl) h3
 have b3 := wfI w3
 obtain ⟨a4, rfl, rfl, rfl, w4⟩ := open_int Tryz.underlying3 (hval 4 3 v4 rfl rfl) h4
 have b4 := wfI w4
 refine (law_RecallProtocol W _ _ _ _ _ _ _ _ _ _ _ _ gE0 gL0 gn0 gm0 gs0 _ _ _ _ hL hS hX).mono fun e W' hh => ?_
 obtain ⟨he, bel⟩ := hh
 subst he
 obtain ⟨gd, qs, rfl, hvv⟩ := sgnVars (sp := fun b => decide (b < W.heap.size)) hV hS bel
 exact ⟨_, rfl, _, _, _, [], _, qs, hW', trodAll_mk1 (shut_bool Tryz.underlying4 _), trodAll_below laidOutAll bel _ _ _ _ (by rw [tsOk, Tryz.params9]; kernel_rfl) hAk, hvv, bel.frame _, fun h => by cases h⟩
theorem fnExactRecallProtocol_met (os : Os) : laidMet Tryz.prog Rows.fnExactRecallProtocolRow.laid ((laidWorld6 os).forCall (fun _ _ => 0) ⟨#[], #[.agg #[.slice none 0 0, .slice none 0 0, .int .i64 0, .int .i64 0, .int .i64 0, .int .i64 0], .string .empty, .int .i64 0, .int .i64 0, .int .i64 0], []⟩).memory :=
 laidMet_of_run' 8 (by kernel_rfl) (by kernel_rfl)
theorem fnExactRecallProtocol_reads (os : Os) {H : Type} (enc : TypeId × Value → H) : ∃ places, DataW.whole enc Tryz.prog ((laidWorld6 os).forCall (fun _ _ => 0) ⟨#[], #[.agg #[.slice none 0 0, .slice none 0 0, .int .i64 0, .int .i64 0, .int .i64 0, .int .i64 0], .string .empty, .int .i64 0, .int .i64 0, .int .i64 0], []⟩).memory Tryz.f9.params.toList Rows.fnExactRecallProtocolSpec.vars false (#[.agg #[.slice none 0 0, .slice none 0 0, .int .i64 0, .int .i64 0, .int .i64 0, .int .i64 0], .string .empty, .int .i64 0, .int .i64 0, .int .i64 0] : Array Value).toList 8 = some ([.agg [.nil, .nil, .lit (.int .i64 0), .lit (.int .i64 0), .lit (.int .i64 0), .lit (.int .i64 0)], .lit (.string []), .lit (.int .i64 0), .lit (.int .i64 0), .lit (.int .i64 0)], [.agg [.lit (.string []), .lit (.string [60]), .lit (.string [101]), .lit (.string [42])]], places) :=
 ⟨MemPlace.row ⟨0, 0, none⟩ 4, by kernel_rfl⟩
set_option maxRecDepth 100000 in
theorem fnExactRecallProtocol_lifted (os : Os) (started : os.Started) (H : Type) (enc : TypeId × Value → H) (F : Stop.Interp) :
  ReturnsInHanded {} Tryz.checked os 9 .any ((OpenSpec.ofChange Rows.fnExactRecallProtocolSpec).preRow enc Tryz.prog Tryz.f9 Rows.fnExactRecallProtocolRow.domain false Rows.fnExactRecallProtocolRow.laid) (((OpenSpec.ofChange Rows.fnExactRecallProtocolSpec).at F).post enc Tryz.prog Tryz.f9 false true false false) := by
 obtain ⟨places, hx⟩ := fnExactRecallProtocol_reads os enc
 refine returnsInHanded_of_row (C := Tryz.checked) (s := OpenSpec.ofChange Rows.fnExactRecallProtocolSpec) own started (by kernel_rfl) Tryz.func9
  (witness_row_at (enc := enc) (C := Tryz.checked) false (laidWorld6 os) #[.agg #[.slice none 0 0, .slice none 0 0, .int .i64 0, .int .i64 0, .int .i64 0, .int .i64 0], .string .empty, .int .i64 0, .int .i64 0, .int .i64 0] rfl (by kernel_rfl) (by kernel_rfl) (by kernel_rfl)
   (OpenSpec.preRow_of_cond 8 hx (by kernel_rfl) (fun k hk => by cases hk) (by kernel_rfl) (fnExactRecallProtocol_met os))) ?_
 intro W base args ds gs before hval hW _ _ _ hL hsh _
 exact fnExactRecallProtocol_contract H enc W base args ds gs before hval hW (tab_of_laid6 hL) (sgn_of_laid6 hL) (mxl_of hsh)
set_option maxRecDepth 100000 in
set_option maxHeartbeats 16000000 in
theorem fnExactRecallProtocol_closed : joinedFacts Tryz.prog 9 Tryz.f9 (OpenSpec.ofChange Rows.fnExactRecallProtocolSpec).bare Rows.fnExactRecallProtocolRow = true := by
 unfold joinedFacts
 repeat' (with_reducible refine Bool.and_eq_true_iff.mpr ⟨?_, ?_⟩)
 all_goals as_aux_lemma => kernel_rfl
theorem fnExactRecallProtocol_said : Rows.FnExactRecallProtocolSaid :=
 OpenClaim.holds_of_cond 9 Tryz.f9 rfl rfl rfl rfl rfl rfl rfl ⟨rfl, rfl, rfl, rfl, rfl⟩ rfl rfl rfl rfl rfl (by kernel_rfl) Tryz.func9 fnExactRecallProtocol_closed
  (of_decide_eq_true (by kernel_rfl)) (by unfold Func.isWrapper; first | (rw [if_pos (by decide +kernel)]; kernel_rfl) | (rw [if_neg (by decide +kernel)]; exact ⟨rfl, rfl⟩))
  (fun os started H enc _ F => by rw [OpenClaim.pre_eq_preRow]; exact fnExactRecallProtocol_lifted os started H enc F)
theorem fnExactRecallProtocol_plain (f : FuncId) (fn : Func) (hf : Tryz.pinned.checked.prog.funcNamed "loop.example/g00912/laws.FnExactRecallProtocol" = some f) (hfn : Tryz.pinned.checked.prog.funcs[f]? = some fn) :
  false = Tryz.pinned.checked.prog.looks [] ∧ ∀ (j : Nat) t, fn.params[j]? = some t → Tryz.pinned.checked.prog.wantsStandIn t = false := by
 obtain rfl : f = 9 := Option.some.inj ((show Tryz.prog.funcNamed "loop.example/g00912/laws.FnExactRecallProtocol" = some 9 by kernel_rfl).symm.trans hf) |>.symm
 obtain rfl : fn = Tryz.f9 := (Option.some.inj (Tryz.func9.symm.trans hfn)).symm
 refine ⟨by kernel_rfl, fun j t ht => ?_⟩
 have hall : ∀ t ∈ Tryz.f9.params.toList, Tryz.prog.wantsStandIn t = false := by rw [Tryz.params9]; intro t ht; simp at ht; first | (subst ht; kernel_rfl) | (rcases ht with rfl | rfl <;> kernel_rfl) | (rcases ht with rfl | rfl | rfl <;> kernel_rfl)
 exact hall t (Array.mem_toList_iff.2 (Array.mem_of_getElem? ht))
theorem fnExactRecallProtocol_holds : Rows.FnExactRecallProtocolCardSaid :=
 Claim7.holds_tied_plain_at .later [] _ _ _ _ fnExactRecallProtocol_said (fun _ h => by cases h) (by kernel_rfl) (fun _ h => by cases h) fnExactRecallProtocol_row_tie rfl ⟨rfl, rfl⟩ (by kernel_rfl) rfl fnExactRecallProtocol_plain (by kernel_rfl)
end Go.Proofs.YtmeaklaagglmeaaGreatDoor
