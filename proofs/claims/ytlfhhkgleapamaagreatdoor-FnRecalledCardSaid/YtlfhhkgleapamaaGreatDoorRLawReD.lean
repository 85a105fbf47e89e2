/- The row and the card of FnRecalled. Conditions: none. -/
import Derived.Test.YtlfhhkgleapamaaGreatDoorRLawPs
import Derived.Test.YtlfhhkgleapamaaGreatDoorRDraws
import Derived.Test.YtlfhhkgleapamaaGreatDoorRBase0
import Derived.Test.YtlfhhkgleapamaaGreatDoorCards
import Derived.Test.YtlfhhkgleapamaaGreatDoorTie
import Derived.Deep.DeepHandedRow
set_option linter.unusedVariables false
set_option linter.unusedSimpArgs false
set_option maxRecDepth 100000
set_option maxHeartbeats 16000000
namespace Go.Proofs.YtlfhhkgleapamaaGreatDoor
open Go.ChangeShapes Go.WideShapes Go.ChangeAt Go.RowKit
set_option maxRecDepth 100000 in
theorem fnRecalled_contract (H : Type) (enc : TypeId × Value -> H) (W : World) (base : Nat) (args : Array Value) (ds gs : List (DataW H)) (before : List MemPlace)
  (hval : ∀ (j : Nat) t v,Tryz.f4.params[j]? = some t -> args[j]? = some v -> Value.okWide Tryz.prog W .any base t v)
  (hW : DataW.Whole enc Tryz.prog Tryz.f4.params.toList Rows.fnRecalledSpec.vars false W args.toList ds gs before) (hL : Tab W) (hS : Sgn W) (hX : Mxl W) :
  Calls Tryz.prog 4 args W fun e W'=>∃ v,e = .returned v /\ Rows.fnRecalledSpec.post enc Tryz.prog Tryz.f4 false true false false W args v W':=by
 have hW':=hW;obtain ⟨p,q,hA0,hV,rfl,hfz,hnd⟩:=hW;have hA : DataW.TrodAll enc Tryz.prog W 0 (fun _=>true) true Tryz.f4.params.toList args.toList ds p:=hA0;have hAk:=hA;rw [Tryz.params4] at hA hval;obtain ⟨v0,vs0,d0,ds0,p0,q0,hargs,rfl,rfl,h0,r0⟩:=trodAll_cons hA;obtain ⟨v1,vs1,d1,ds1,p1,q1,rfl,rfl,rfl,h1,r1⟩:=trodAll_cons r0;obtain ⟨rfl,rfl,rfl⟩:=trodAll_nil r1;obtain rfl : args = #[v0,v1]:=by cases args;simp_all
 obtain ⟨A0,n0,c0,l0,rfl,g0,nc0,cm0⟩:=open_RdY (hval 0 22 v0 rfl rfl) h0;obtain ⟨A1,n1,c1,l1,rfl,g1,nc1,cm1⟩:=open_RdY (hval 1 22 v1 rfl rfl) h1;refine (law_Recalled W _ _ _ _ g0 (by simp only [maxLen] at cm0;omega) _ _ _ _ g1 (by simp only [maxLen] at cm1;omega) hL hS hX).mono fun e W' hh=>?_
 obtain ⟨he,bel⟩:=hh;subst he;obtain ⟨gd,qs,rfl,hvv⟩:=sgnVars (sp:=fun b=>decide (b < W.heap.size)) hV hS bel;exact ⟨_,rfl,_,_,_,[],_,qs,hW',trodAll_mk1 (shut_bool Tryz.underlying4 _),trodAll_below laidOutAll bel _ _ _ _ (by rw [tsOk,Tryz.params4];kernel_rfl) hAk,hvv,bel.frame _,fun h=>by cases h⟩
theorem fnRecalled_met (os : Os) : laidMet Tryz.prog Rows.fnRecalledRow.laid ((laidWorld6 os).forCall (fun _ _=>0) ⟨#[],#[.slice none 0 0,.slice none 0 0],[]⟩).memory :=
 laidMet_of_run' 8 (by kernel_rfl) (by kernel_rfl)
theorem fnRecalled_reads (os : Os) {H : Type} (enc : TypeId × Value -> H) : ∃ places,DataW.whole enc Tryz.prog ((laidWorld6 os).forCall (fun _ _=>0) ⟨#[],#[.slice none 0 0,.slice none 0 0],[]⟩).memory Tryz.f4.params.toList Rows.fnRecalledSpec.vars false (#[.slice none 0 0,.slice none 0 0] : Array Value).toList 8 = some ([.nil,.nil],[.agg [.lit (.string []),.lit (.string [60]),.lit (.string [101]),.lit (.string [42])]],places) :=
 ⟨MemPlace.row ⟨0,0,none⟩ 4,by kernel_rfl⟩
set_option maxRecDepth 100000 in
theorem fnRecalled_lifted (os : Os) (started : os.Started) (H : Type) (enc : TypeId × Value -> H) (F : Stop.Interp) :
  ReturnsInHanded {} Tryz.checked os 4 .any ((OpenSpec.ofChange Rows.fnRecalledSpec).preRow enc Tryz.prog Tryz.f4 Rows.fnRecalledRow.domain false Rows.fnRecalledRow.laid) (((OpenSpec.ofChange Rows.fnRecalledSpec).at F).post enc Tryz.prog Tryz.f4 false true false false):=by
 obtain ⟨places,hx⟩:=fnRecalled_reads os enc;refine returnsInHanded_of_row (C:=Tryz.checked) (s:=OpenSpec.ofChange Rows.fnRecalledSpec) own started (by kernel_rfl) Tryz.func4
  (witness_row_at (enc:=enc) (C:=Tryz.checked) false (laidWorld6 os) #[.slice none 0 0,.slice none 0 0] rfl (by kernel_rfl) (by kernel_rfl) (by kernel_rfl)
   (OpenSpec.preRow_of_cond 8 hx (by kernel_rfl) (fun k hk=>by cases hk) (by kernel_rfl) (fnRecalled_met os))) ?_
 intro W base args ds gs before hval hW _ _ _ hL hsh _;exact fnRecalled_contract H enc W base args ds gs before hval hW (tab_of_laid6 hL) (sgn_of_laid6 hL) (mxl_of hsh)
set_option maxRecDepth 100000 in
theorem fnRecalled_closed : joinedFacts Tryz.prog 4 Tryz.f4 (OpenSpec.ofChange Rows.fnRecalledSpec).bare Rows.fnRecalledRow = true:=by
 unfold joinedFacts
 repeat' (with_reducible refine Bool.and_eq_true_iff.mpr ⟨?_,?_⟩)
 all_goals as_aux_lemma=>kernel_rfl
theorem fnRecalled_said : Rows.FnRecalledSaid :=
 OpenClaim.holds_of_cond 4 Tryz.f4 rfl rfl rfl rfl rfl rfl rfl ⟨rfl,rfl,rfl,rfl,rfl⟩ rfl rfl rfl rfl rfl (by kernel_rfl) Tryz.func4 fnRecalled_closed
  (of_decide_eq_true (by kernel_rfl)) (by unfold Func.isWrapper;first | (rw [if_pos (by decide +kernel)];kernel_rfl) | (rw [if_neg (by decide +kernel)];exact ⟨rfl,rfl⟩))
  (fun os started H enc _ F=>by rw [OpenClaim.pre_eq_preRow];exact fnRecalled_lifted os started H enc F)
theorem fnRecalled_plain (f : FuncId) (fn : Func) (hf : Tryz.pinned.checked.prog.funcNamed "loop.example/g00912/laws.FnRecalled" = some f) (hfn : Tryz.pinned.checked.prog.funcs[f]? = some fn) :
  false = Tryz.pinned.checked.prog.looks [] /\ ∀ (j : Nat) t,fn.params[j]? = some t -> Tryz.pinned.checked.prog.wantsStandIn t = false:=by
 obtain rfl : f = 4:=Option.some.inj ((show Tryz.prog.funcNamed "loop.example/g00912/laws.FnRecalled" = some 4 by kernel_rfl).symm.trans hf) |>.symm
 obtain rfl : fn = Tryz.f4:=(Option.some.inj (Tryz.func4.symm.trans hfn)).symm;refine ⟨by kernel_rfl,fun j t ht=>?_⟩;have hall : ∀ t ∈ Tryz.f4.params.toList,Tryz.prog.wantsStandIn t = false:=by rw [Tryz.params4];intro t ht;simp at ht;first | (subst ht;kernel_rfl) | (rcases ht with rfl | rfl <;> kernel_rfl) | (rcases ht with rfl | rfl | rfl <;> kernel_rfl)
 exact hall t (Array.mem_toList_iff.2 (Array.mem_of_getElem? ht))
theorem fnRecalled_holds : Rows.FnRecalledCardSaid :=
 Claim7.holds_tied_plain_at .later [] _ _ _ _ fnRecalled_said (fun _ h=>by cases h) (by kernel_rfl) (fun _ h=>by cases h) fnRecalled_row_tie rfl ⟨rfl,rfl⟩ (by kernel_rfl) rfl fnRecalled_plain (by kernel_rfl)
end Go.Proofs.YtlfhhkgleapamaaGreatDoor
