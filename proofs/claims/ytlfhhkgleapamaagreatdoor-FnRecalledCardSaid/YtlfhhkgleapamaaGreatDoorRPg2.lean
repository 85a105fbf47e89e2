/- Contracts: a drawn programme tested by the rules, in the reference: some answer, nothing written. Conditions: none. -/
import Derived.Test.YtlfhhkgleapamaaGreatDoorRGoods
import Derived.Test.YtlfhhkgleapamaaGreatDoorRBase1s
import Derived.Test.YtlfhhkgleapamaaGreatDoorRDoors
import Derived.Test.YtlfhhkgleapamaaGreatDoorRCode34
import Derived.Test.YtlfhhkgleapamaaGreatDoorRFors
set_option linter.unusedVariables false
set_option linter.unusedSimpArgs false
set_option maxRecDepth 100000
set_option maxHeartbeats 16000000
namespace Go.Proofs.YtlfhhkgleapamaaGreatDoor
open Go.RowKit
theorem findE_or (els : List El) (s : ByteArray) : findE els s = -1 ∨ ∃ k : Nat,findE els s = k /\ k < els.length:=by
 by_cases h : 0 <= findE els s
 ·
  exact .inr (findE_nat h)
 ·
  left
  unfold findE at h ⊢
  split
  ·
   rename_i h2;rw [if_pos h2] at h;omega
  ·
   rfl
theorem fam_of {els : List El} {lims : List Int} {q0 q1 q2 q3 : Int} (h : codeB els lims q0 q1 q2 q3 = true) {k : Nat} (hk : k < els.length) : 0 <= (els[k]?.getD zEl).2.1 /\ (els[k]?.getD zEl).2.1 <= 4:=by
 simp only [codeB,Bool.and_eq_true] at h;have h2:=List.all_eq_true.1 h.1 k (by simpa using hk);simp only [okElAt,elB,Bool.and_eq_true] at h2;exact inB_iff.1 h2.1.2.1
theorem lims_of {els : List El} {lims : List Int} {q0 q1 q2 q3 : Int} (h : codeB els lims q0 q1 q2 q3 = true) : lims.length = 5:=by
 simp only [codeB,Bool.and_eq_true,decide_eq_true_eq] at h;exact h.2.2.1
theorem els_of {els : List El} {lims : List Int} {q0 q1 q2 q3 : Int} (h : codeB els lims q0 q1 q2 q3 = true) : 1 <= els.length:=by
 simp only [codeB,Bool.and_eq_true] at h;have:=inB_iff.1 h.2.1;omega
def famV (els : List El) (s : ByteArray) : Int:=if 0 <= findE els s then (els[(findE els s).toNat]?.getD zEl).2.1 else -1
theorem famV_or {els : List El} {lims : List Int} {q0 q1 q2 q3 : Int} (h : codeB els lims q0 q1 q2 q3 = true) (s : ByteArray) : famV els s = -1 ∨ ∃ f : Nat,famV els s = f /\ f < 5:=by
 unfold famV
 rcases findE_or els s with hk | ⟨k,hk,hkn⟩
 ·
  left;rw [hk];rfl
 ·
  right
  rw [hk,if_pos Om,Int.toNat_natCast];have:=fam_of h hkn;exact ⟨(els[k]?.getD zEl).2.1.toNat,Om,Om⟩
theorem pgFamily_any (w : World) (A B : OA) (n m c d : Nat) (els : List El) (lims : List Int) (q0 q1 q2 q3 : Int) (hc : CodeR w A n B m els lims) (hv : codeB els lims q0 q1 q2 q3 = true) (NA MA : OA) (nn nc mn mc : Nat) (lt : Bool) (l : List ByteArray) (hN : RdT w NA nn l) (h0 : 0 < nn) :
  Calls Tryz.prog 265 #[.agg #[.slice A n c,.slice B m d,.int .i64 q0,.int .i64 q1,.int .i64 q2,.int .i64 q3],.agg #[.slice NA nn nc,.slice MA mn mc,.bool lt]] w (fun e w'=>e = .returned (.int .i64 (famV els (l[0]?.getD ByteArray.empty))) /\ ∃ x,w' = ext w x):=by
 obtain ⟨bn,on,rfl,hbn,hcn⟩:=hN.open_ h0;have hc0:=hcn 0 h0;rw [Nat.add_zero] at hc0;have HV : Hid (famV els (l[0]?.getD ByteArray.empty) = if 0 <= findE els (l[0]?.getD ByteArray.empty) then (els[(findE els (l[0]?.getD ByteArray.empty)).toNat]?.getD zEl).2.1 else -1):=rfl;generalize l[0]?.getD ByteArray.empty = nm at *;have hel : 0 < n:=by have h1:=els_of hv;have h2:=hc.1.len;omega
 obtain ⟨be,oe,rfl,_⟩:=hc.1.at_ 0 hel;have cf:=fun W h=>cdFind_any W (some ⟨be,oe,none⟩) B n m c d els q0 q1 q2 q3 nm (hc.1.below h) hc.2.2.1
 have h0I : (0 : Int) < nn:=Om;have hlw : w.heap.size < ((w.alloc (.cells #[.slice (some ⟨be,oe,none⟩) n c,.slice B m d,.int .i64 q0,.int .i64 q1,.int .i64 q2,.int .i64 q3] 27)).alloc (.cells #[.slice (some ⟨bn,on,none⟩) nn nc,.slice MA mn mc,.bool lt] 61)).heap.size:=by simp [go_sem]
 have hbn2 : bn < ((w.alloc (.cells #[.slice (some ⟨be,oe,none⟩) n c,.slice B m d,.int .i64 q0,.int .i64 q1,.int .i64 q2,.int .i64 q3] 27)).alloc (.cells #[.slice (some ⟨bn,on,none⟩) nn nc,.slice MA mn mc,.bool lt] 61)).heap.size:=by simp [go_sem];omega
 have hS:=fun (W : World) (h : Below ((w.alloc (.cells #[.slice (some ⟨be,oe,none⟩) n c,.slice B m d,.int .i64 q0,.int .i64 q1,.int .i64 q2,.int .i64 q3] 27)).alloc (.cells #[.slice (some ⟨bn,on,none⟩) nn nc,.slice MA mn mc,.bool lt] 61)).heap.size ((w.alloc (.cells #[.slice (some ⟨be,oe,none⟩) n c,.slice B m d,.int .i64 q0,.int .i64 q1,.int .i64 q2,.int .i64 q3] 27)).alloc (.cells #[.slice (some ⟨bn,on,none⟩) nn nc,.slice MA mn mc,.bool lt] 61)) W)=>(⟨(h.cell (p:=⟨w.heap.size,0,none⟩) hlw).trans Sg,(h.cell (p:=⟨w.heap.size,1,none⟩) hlw).trans Sg,(h.cell (p:=⟨w.heap.size,2,none⟩) hlw).trans Sg,(h.cell (p:=⟨w.heap.size,3,none⟩) hlw).trans Sg,(h.cell (p:=⟨w.heap.size,4,none⟩) hlw).trans Sg,(h.cell (p:=⟨w.heap.size,5,none⟩) hlw).trans Sg,(h.cell (p:=⟨w.heap.size + 1,0,none⟩) Sg).trans Sg,((h.cell (p:=⟨bn,on,none⟩) hbn2).trans ((show Below w.heap.size w ((w.alloc (.cells #[.slice (some ⟨be,oe,none⟩) n c,.slice B m d,.int .i64 q0,.int .i64 q1,.int .i64 q2,.int .i64 q3] 27)).alloc (.cells #[.slice (some ⟨bn,on,none⟩) nn nc,.slice MA mn mc,.bool lt] 61)) from bL).cell (p:=⟨bn,on,none⟩) hbn)).trans hc0⟩ : W.cell? ⟨w.heap.size,0,none⟩ = some (.slice (some ⟨be,oe,none⟩) n c) /\ W.cell? ⟨w.heap.size,1,none⟩ = some (.slice B m d) /\ W.cell? ⟨w.heap.size,2,none⟩ = some (.int .i64 q0) /\ W.cell? ⟨w.heap.size,3,none⟩ = some (.int .i64 q1) /\ W.cell? ⟨w.heap.size,4,none⟩ = some (.int .i64 q2) /\ W.cell? ⟨w.heap.size,5,none⟩ = some (.int .i64 q3) /\ W.cell? ⟨w.heap.size + 1,0,none⟩ = some (.slice (some ⟨bn,on,none⟩) nn nc) /\ W.cell? ⟨bn,on,none⟩ = some (.string nm))
 rcases findE_or els nm with hk | ⟨k,hk,hkn⟩
 ·
  have HE : Hid (famV els nm = -1):=by unfold Hid;rw [HV.out,hk];rfl
  rw [hk] at cf;clear hc hcn hk HV;go_enter Tryz.func265,Tryz.ntmps265;go_wp2
  go_region_held3 (fun w'=>w'.cell? ⟨w.heap.size,0,none⟩ = some (.slice (some ⟨be,oe,none⟩) n c) /\ w'.cell? ⟨w.heap.size,1,none⟩ = some (.slice B m d) /\ w'.cell? ⟨w.heap.size,2,none⟩ = some (.int .i64 q0) /\ w'.cell? ⟨w.heap.size,3,none⟩ = some (.int .i64 q1) /\ w'.cell? ⟨w.heap.size,4,none⟩ = some (.int .i64 q2) /\ w'.cell? ⟨w.heap.size,5,none⟩ = some (.int .i64 q3) /\ w'.cell? ⟨w.heap.size + 1,0,none⟩ = some (.slice (some ⟨bn,on,none⟩) nn nc) /\ w'.cell? ⟨bn,on,none⟩ = some (.string nm)) (exact hS _ bL) ((go_at_call 240;((with_reducible refine ex (cf _ bL) ?_);intro x1)))
  go_wp2;go_ret;exact ⟨ret_int (by rw [HE.out]),ext_ex bL⟩
 ·
  have HE : Hid (famV els nm = (els[k]?.getD zEl).2.1):=by unfold Hid;rw [HV.out,hk,if_pos Om,Int.toNat_natCast]
  rw [hk] at cf;have hfm:=fam_of hv hkn;rw [hc.1.len] at hkn;obtain ⟨be2,oe2,hbo,hbe,e0,e1,_⟩:=hc.1.at_ k hkn;injection hbo with hbo;injection hbo with hbo1 hbo2;subst hbo1 hbo2;generalize (els[k]?.getD zEl).2.1 = fm at *;have hkI : (k : Int) < n:=Om;have hk0 : (0 : Int) <= k:=Om;have h9:=fun (W : World) (h : Below w.heap.size w W)=>(h.cell (p:=⟨be,oe + k * 4 + 1,none⟩) hbe).trans e1
  clear hc hcn hk HV;go_enter Tryz.func265,Tryz.ntmps265;go_wp2
  go_region_held3 (fun w'=>w'.cell? ⟨w.heap.size,0,none⟩ = some (.slice (some ⟨be,oe,none⟩) n c) /\ w'.cell? ⟨w.heap.size,1,none⟩ = some (.slice B m d) /\ w'.cell? ⟨w.heap.size,2,none⟩ = some (.int .i64 q0) /\ w'.cell? ⟨w.heap.size,3,none⟩ = some (.int .i64 q1) /\ w'.cell? ⟨w.heap.size,4,none⟩ = some (.int .i64 q2) /\ w'.cell? ⟨w.heap.size,5,none⟩ = some (.int .i64 q3) /\ w'.cell? ⟨w.heap.size + 1,0,none⟩ = some (.slice (some ⟨bn,on,none⟩) nn nc) /\ w'.cell? ⟨bn,on,none⟩ = some (.string nm)) (exact hS _ bL) ((go_at_call 240;((with_reducible refine ex (cf _ bL) ?_);intro x1)))
  have q9:=h9 (ext ((w.alloc (.cells #[.slice (some ⟨be,oe,none⟩) n c,.slice B m d,.int .i64 q0,.int .i64 q1,.int .i64 q2,.int .i64 q3] 27)).alloc (.cells #[.slice (some ⟨bn,on,none⟩) nn nc,.slice MA mn mc,.bool lt] 61)).drew x1) bL;clear h9 hS;go_wp2;go_ret;exact ⟨ret_int (by rw [HE.out]),ext_ex bL⟩
def RetCn (w : World) (e : Ending) (w' : World) : Prop:=∃ (A : OA) (L : List Int) (x : World),e = .returned (.slice A 5 5) /\ w' = ext w x /\ OwI w.heap.size (ext w x) A 5 5 L
theorem ints_made5 : (madeCells (Value.int .i64 0).cells (5 * 1)).toList = (List.replicate 5 (0 : Int)).map (Value.int .i64):=by
 rw [Nat.mul_one]
 show (madeCells #[Value.int .i64 0] 5).toList = _
 rw [toList_madeCells_one];simp
theorem pgCounts_any (w : World) (A B : OA) (n m c d : Nat) (els : List El) (lims : List Int) (q0 q1 q2 q3 : Int) (hc : CodeR w A n B m els lims) (hv : codeB els lims q0 q1 q2 q3 = true) (I : OA) (n2 c2 : Nat) (its : List It) (ha : ItsR w I n2 c2 its) (hg : itemsB its = true) :
  Calls Tryz.prog 260 #[.agg #[.slice A n c,.slice B m d,.int .i64 q0,.int .i64 q1,.int .i64 q2,.int .i64 q3],.slice I n2 c2] w (RetCn w):=by
 have Hl:=Lib.hid ha.1.len;have Hg:=Lib.hid (items_of hg).2;have hn:=ha.2.1;have sz : ∀ (W : World) (o : Obj),(W.alloc o).heap.size = W.heap.size + 1:=fun W o=>by simp [go_sem]
 have F1:=(Fo.nil_ (b:=w.heap.size) (hi:=w.heap.size) (w:=w)).lit (j:=(9,0)) rfl (Nat.le_refl _) (Nat.le_refl _) 27 6 1 #[.slice A n c,.slice B m d,.int .i64 q0,.int .i64 q1,.int .i64 q2,.int .i64 q3] rfl (by simp [maxLen]) _ rfl;obtain ⟨i0,hi0,hz0,hz1,hz2⟩:=info_parts int_info;go_enter Tryz.func260,Tryz.ntmps260;go_wp2_with (at_make;refine wpList_make_full (w.alloc (oC A n c B m d q0 q1 q2 q3)) rfl _ _ _ rfl (w.alloc (oC A n c B m d q0 q1 q2 q3)).heap.size 3 i0 _ 1 Tryz.underlying25 hi0 hz0 hz1 .i64 .i64 _ _ 5 rfl rfl rfl rfl (by rw [hz2];omega) (by simp only [maxLen];omega) (Nat.le_refl _) ?_;intro w1 hown1 hg1)
 have hb1 : Below (w.alloc (oC A n c B m d q0 q1 q2 q3)).heap.size (w.alloc (oC A n c B m d q0 q1 q2 q3)) w1:=below_grown (Below.refl _ _) hg1 (by simp);rw [ints_made5] at hown1;have o1 : OwI (w.alloc (oC A n c B m d q0 q1 q2 q3)).heap.size w1 (some ⟨(w.alloc (oC A n c B m d q0 q1 q2 q3)).heap.size,0,none⟩) 5 5 [0,0,0,0,0]:=hown1;have F2:=F1.addI (j:=(9,1)) (by simp [upd,famN]) hb1 (by simp only [sz];omega) (by simp only [sz];omega) (by simp only [sz];omega) o1;have hbw1 : Below w.heap.size w w1:=(show Below w.heap.size w (w.alloc (oC A n c B m d q0 q1 q2 q3)) from bL).trans (hb1.mono (by simp only [sz];omega));simp only [sz] at F2;clear hown1 hg1 hb1 o1
 go_loopw [7,8,12] (fun _ _ i wr=>∃ (k : Nat) (R : Fam) (LL : List Int) (y : World),k <= n2 /\ i = .int .i64 k /\ wr = ext w y /\ Fo w.heap.size wr.heap.size wr R /\ R (9,0) = ⟨27,6,some ⟨w.heap.size,0,none⟩,1,1,[.slice A n c,.slice B m d,.int .i64 q0,.int .i64 q1,.int .i64 q2,.int .i64 q3]⟩ /\ R (9,1) = rowI (some ⟨w.heap.size + 1,0,none⟩) 5 5 LL) (fun _ _ i _=>n2 - (intOf i).toNat)
 case atStart =>
  obtain ⟨y,hy⟩:=ext_ex hbw1;exact ⟨0,_,[0,0,0,0,0],y,Om,rfl,hy,F2,by simp [upd],by simp [upd]⟩
 case round =>
  obtain ⟨k,R,LL,y,hk,rfl,rfl,hF,e0,e1⟩:=hrel;clear F1 F2;by_cases hlt : k < n2
  ·
   obtain ⟨b,off,rfl,hb,hcl⟩:=ha.1.2 Om;obtain ⟨NA,nn,nc,MA,mn,mc,c0,c1,c2',hN,hM,hnc,hmc⟩:=hcl k hlt;have hgk:=Hg.out k (by rw [Hl.out];exact hlt);have hnl:=hN.len;generalize its[k]?.getD zIt = it at *;obtain ⟨l,ml,lt⟩:=it;simp only at c2' hN hgk hnl;have cfm:=fun W h=>pgFamily_any W A B n m c d els lims q0 q1 q2 q3 (hc.below h) hv NA MA nn nc mn mc lt l (hN.below h) Om
   have l0 : w.heap.size < (ext w y).heap.size:=(Ow.blk (hF.at_ e0) rfl).2;have l1 : w.heap.size + 1 < (ext w y).heap.size:=(Ow.blk (hF.ownI e1) rfl).2;have hq:=fun i v hv=>(hF.cell e0 i v hv).1
   have y0:=hq 0 _ rfl;have y1:=hq 1 _ rfl;have y2:=hq 2 _ rfl;have y3:=hq 3 _ rfl;have y4:=hq 4 _ rfl;have y5:=hq 5 _ rfl;clear hq hcl hM hnc hmc hN;have F3:=hF.below' (bAlloc (Below.refl _ _) (.cells #[.slice NA nn nc,.slice MA mn mc,.bool lt] 61)) (Nat.le_refl _)
   rcases famV_or hv (l[0]?.getD ByteArray.empty) with hf | ⟨f,hf,hf5⟩
   ·
    rw [hf] at cfm;clear hf;go_wp2_with ((go_at_call 265;((with_reducible refine (cfm _ bL).mono ?_);rintro e w' ⟨rfl,x1,rfl⟩)))
    obtain ⟨y2,hy2⟩:=ext_ex (show Below w.heap.size w (ext ((ext w y).alloc (.cells #[.slice NA nn nc,.slice MA mn mc,.bool lt] 61)) x1) from bL);have F4:=F3.below' (ext_below _ x1) (Nat.le_refl _);go_roundw
    case rel=>exact ⟨k + 1,R,LL,y2,Om,by go_num,hy2,F4,e0,e1⟩
    case measure=>simp [intOf];omega
   ·
    rw [hf] at cfm;have hfI : (f : Int) < 5:=Om;have hf0 : (0 : Int) <= f:=Om;clear hf;have hL5 : LL.length = 5:=(hF.ownI e1).len;have hLf : (LL.map (Value.int .i64))[f]? = some (.int .i64 (LL[f]?.getD 0)):=by rw [List.getElem?_map,List.getElem?_eq_getElem Om];rfl
    have HL:=Lib.hid hLf;clear hLf hL5;go_wp2_with ((go_at_call 265;((with_reducible refine (cfm _ bL).mono ?_);rintro e w' ⟨rfl,x1,rfl⟩;(have F4:=F3.below' (ext_below _ x1) (Nat.le_refl _));(obtain ⟨hc4,hf4⟩:=F4.cell e1 f _ HL.out))))
    generalize wrap64 (LL[f]?.getD 0 + 1) = V;have F5:=F4.store e1 f (.int .i64 V);have eR : upd R (9,1) ⟨3,1,some ⟨w.heap.size + 1,0,none⟩,5,5,(LL.map (Value.int .i64)).set f (.int .i64 V)⟩ = upd R (9,1) (rowI (some ⟨w.heap.size + 1,0,none⟩) 5 5 (LL.set f V)):=by unfold rowI;rw [List.map_set]
    rw [eR] at F5;have hs5 : ((ext ((ext w y).alloc (.cells #[.slice NA nn nc,.slice MA mn mc,.bool lt] 61)) x1).setCell ⟨w.heap.size + 1,f,none⟩ (.int .i64 V)).heap.size = (ext ((ext w y).alloc (.cells #[.slice NA nn nc,.slice MA mn mc,.bool lt] 61)) x1).heap.size:=by simp [World.setCell]
    rw [<- hs5] at F5;obtain ⟨y2,hy2⟩:=ext_ex (show Below w.heap.size w ((ext ((ext w y).alloc (.cells #[.slice NA nn nc,.slice MA mn mc,.bool lt] 61)) x1).setCell ⟨w.heap.size + 1,f,none⟩ (.int .i64 V)) from bL);go_roundw
    case rel=>exact ⟨k + 1,_,LL.set f V,y2,Om,by go_num,hy2,F5,by simp [upd,e0],by simp [upd]⟩
    case measure=>simp [intOf];omega
  ·
   obtain rfl : k = n2:=Om;have ho:=hF.ownI e1;go_wp2;go_ret;exact ⟨_,LL,y,rfl,rfl,ho⟩
theorem pgName_any (w : World) (A B : OA) (n m c d : Nat) (els : List El) (lims : List Int) (q0 q1 q2 q3 : Int) (hc : CodeR w A n B m els lims) (hv : codeB els lims q0 q1 q2 q3 = true) (I : OA) (n2 c2 : Nat) (its : List It) (ha : ItsR w I n2 c2 its) (NA MA : OA) (nn nc mn mc : Nat) (lt : Bool) (nm : ByteArray) (rule : Int) :
  Calls Tryz.prog 266 #[.agg #[.slice A n c,.slice B m d,.int .i64 q0,.int .i64 q1,.int .i64 q2,.int .i64 q3],.slice I n2 c2,.agg #[.slice NA nn nc,.slice MA mn mc,.bool lt],.string nm,.int .i64 rule] w (RetAB w):=by
 have cf:=fun W h=>cdFind_any W A B n m c d els q0 q1 q2 q3 nm (hc.1.below h) hc.2.2.1
 have ct:=fun W h=>pgTimes_any W I n2 c2 its (ha.below h) nm
 have hfe:=findE_or els nm;generalize hfd : findE els nm = fd at *;clear hfd;by_cases h2 : rule = 2
 ·
  subst h2;clear hc ha ct hv;go_enter Tryz.func266,Tryz.ntmps266;go_wp2_with ((go_at_call 240;((with_reducible refine ex (cf _ bL) ?_);intro x1)))
  go_ret;exact RetAB.mk_ bL
 ·
  by_cases h4 : rule = 4
  ·
   subst h4;by_cases h1 : nn = 1
   ·
    subst h1;clear hc ha ct hv h2;go_enter Tryz.func266,Tryz.ntmps266;go_wp2_with ((go_at_call 240;((with_reducible refine ex (cf _ bL) ?_);intro x1)))
    go_ret;exact RetAB.mk_ bL
   ·
    have h1I : ¬ (nn : Int) = 1:=Om
    rcases hfe with rfl | ⟨k,rfl,hk⟩
    ·
     clear hc ha ct hv h2;go_enter Tryz.func266,Tryz.ntmps266;go_wp2_with ((go_at_call 240;((with_reducible refine ex (cf _ bL) ?_);intro x1)))
     go_ret;exact RetAB.mk_ bL
    ·
     rw [hc.1.len] at hk;obtain ⟨be,oe,rfl,hbe,e0,e1,_⟩:=hc.1.at_ k hk;have hkI : (k : Int) < n:=Om;have hk0 : (0 : Int) <= k:=Om;have hl9 : be < ((w.alloc (.cells #[.slice (some ⟨be,oe,none⟩) n c,.slice B m d,.int .i64 q0,.int .i64 q1,.int .i64 q2,.int .i64 q3] 27)).alloc (.cells #[.slice NA nn nc,.slice MA mn mc,.bool lt] 61)).heap.size:=by simp [go_sem];omega
     have h9:=fun x=>((ext_below ((w.alloc (.cells #[.slice (some ⟨be,oe,none⟩) n c,.slice B m d,.int .i64 q0,.int .i64 q1,.int .i64 q2,.int .i64 q3] 27)).alloc (.cells #[.slice NA nn nc,.slice MA mn mc,.bool lt] 61)) x).cell (p:=⟨be,oe + k * 4 + 1,none⟩) hl9).trans (((show Below w.heap.size w ((w.alloc (.cells #[.slice (some ⟨be,oe,none⟩) n c,.slice B m d,.int .i64 q0,.int .i64 q1,.int .i64 q2,.int .i64 q3] 27)).alloc (.cells #[.slice NA nn nc,.slice MA mn mc,.bool lt] 61)) from bL).cell (p:=⟨be,oe + k * 4 + 1,none⟩) hbe).trans e1)
     generalize (els[k]?.getD zEl).2.1 = fm at *;clear hc ha ct hv h2 h1;by_cases hf0 : fm = 0
     ·
      subst hf0;go_enter Tryz.func266,Tryz.ntmps266;go_wp2_with ((go_at_call 240;((with_reducible refine ex (cf _ bL) ?_);intro x1)))
      go_ret;exact RetAB.mk_ bL
     ·
      go_enter Tryz.func266,Tryz.ntmps266;go_wp2_with ((go_at_call 240;((with_reducible refine ex (cf _ bL) ?_);intro x1)))
      go_ret;exact RetAB.mk_ bL
  ·
   clear hc ha hv;unfold RetAII at ct;go_enter Tryz.func266,Tryz.ntmps266;go_wp2_with (first | (go_at_call 240;((with_reducible refine ex (cf _ bL) ?_);intro x1)) | (go_at_call 267;((with_reducible refine (ct _ bL).mono ?_);rintro e w' ⟨i,j,x2,rfl,rfl⟩)))
   all_goals (go_ret;exact RetAB.mk_ bL)
theorem pgNames_any (w : World) (A B : OA) (n m c d : Nat) (els : List El) (lims : List Int) (q0 q1 q2 q3 : Int) (hc : CodeR w A n B m els lims) (hv : codeB els lims q0 q1 q2 q3 = true) (I : OA) (n2 c2 : Nat) (its : List It) (ha : ItsR w I n2 c2 its) (rule : Int) :
  Calls Tryz.prog 262 #[.agg #[.slice A n c,.slice B m d,.int .i64 q0,.int .i64 q1,.int .i64 q2,.int .i64 q3],.slice I n2 c2,.int .i64 rule] w (RetAB w):=by
 have Hl:=Lib.hid ha.1.len;have Hs:=Lib.hid ha.2.2.2;have hn:=ha.2.1;have sz : ∀ (W : World) (o : Obj),(W.alloc o).heap.size = W.heap.size + 1:=fun W o=>by simp [go_sem]
 have F1:=(Fo.nil_ (b:=w.heap.size) (hi:=w.heap.size) (w:=w)).lit (j:=(9,0)) rfl (Nat.le_refl _) (Nat.le_refl _) 27 6 1 #[.slice A n c,.slice B m d,.int .i64 q0,.int .i64 q1,.int .i64 q2,.int .i64 q3] rfl (by simp [maxLen]) _ rfl;go_enter Tryz.func262,Tryz.ntmps262;go_wp2
 go_loopw [8,10,13,17,18,19,20] (fun _ _ i _ _ _ _ wr=>∃ (k : Nat) (R : Fam) (y : World),k <= n2 /\ i = .int .i64 k /\ wr = ext w y /\ Fo w.heap.size wr.heap.size wr R /\ R (9,0) = ⟨27,6,some ⟨w.heap.size,0,none⟩,1,1,[.slice A n c,.slice B m d,.int .i64 q0,.int .i64 q1,.int .i64 q2,.int .i64 q3]⟩) (fun _ _ i _ _ _ _ _=>n2 - (intOf i).toNat)
 case atStart =>
  obtain ⟨y,hy⟩:=ext_ex (show Below w.heap.size w (w.alloc (oC A n c B m d q0 q1 q2 q3)) from bL);exact ⟨0,_,y,Om,rfl,hy,F1.mono (Nat.le_refl _) (by simp only [sz];omega),by simp [upd]⟩
 case round =>
  obtain ⟨k,R,y,hk,rfl,rfl,hF,e0⟩:=hrel;clear F1;by_cases hlt : k < n2
  ·
   obtain ⟨b,off,rfl,hb,hcl⟩:=ha.1.2 Om;obtain ⟨NA,nn,nc,MA,mn,mc,c0,c1,c2',hN,hM,hnc,hmc⟩:=hcl k hlt;have hnn : nn <= 1099511627776:=by rw [<- hN.len];exact (Hs.out _ (getD_mem zIt its k (by rw [Hl.out];exact hlt))).1
   generalize (its[k]?.getD zIt).2.2 = lt at *;generalize (its[k]?.getD zIt).1 = l at *;have l0 : w.heap.size < (ext w y).heap.size:=(Ow.blk (hF.at_ e0) rfl).2;have l0k : w.heap.size < ((ext w y).alloc (.cells #[.slice NA nn nc,.slice MA mn mc,.bool lt] 61)).heap.size:=by rw [sz];omega
   have lik : (ext w y).heap.size < ((ext w y).alloc (.cells #[.slice NA nn nc,.slice MA mn mc,.bool lt] 61)).heap.size:=by rw [sz];omega
   have hq:=fun i v hv=>(hF.cell e0 i v hv).1
   have hbk : Below (ext w y).heap.size (ext w y) ((ext w y).alloc (.cells #[.slice NA nn nc,.slice MA mn mc,.bool lt] 61)):=bAlloc (Below.refl _ _) _;have y0:=fun z=>((ext_below ((ext w y).alloc (.cells #[.slice NA nn nc,.slice MA mn mc,.bool lt] 61)) z).cell (p:=⟨w.heap.size,0,none⟩) l0k).trans ((hbk.cell (p:=⟨w.heap.size,0,none⟩) l0).trans (hq 0 _ rfl))
   have y1:=fun z=>((ext_below ((ext w y).alloc (.cells #[.slice NA nn nc,.slice MA mn mc,.bool lt] 61)) z).cell (p:=⟨w.heap.size,1,none⟩) l0k).trans ((hbk.cell (p:=⟨w.heap.size,1,none⟩) l0).trans (hq 1 _ rfl))
   have y2:=fun z=>((ext_below ((ext w y).alloc (.cells #[.slice NA nn nc,.slice MA mn mc,.bool lt] 61)) z).cell (p:=⟨w.heap.size,2,none⟩) l0k).trans ((hbk.cell (p:=⟨w.heap.size,2,none⟩) l0).trans (hq 2 _ rfl))
   have y3:=fun z=>((ext_below ((ext w y).alloc (.cells #[.slice NA nn nc,.slice MA mn mc,.bool lt] 61)) z).cell (p:=⟨w.heap.size,3,none⟩) l0k).trans ((hbk.cell (p:=⟨w.heap.size,3,none⟩) l0).trans (hq 3 _ rfl))
   have y4:=fun z=>((ext_below ((ext w y).alloc (.cells #[.slice NA nn nc,.slice MA mn mc,.bool lt] 61)) z).cell (p:=⟨w.heap.size,4,none⟩) l0k).trans ((hbk.cell (p:=⟨w.heap.size,4,none⟩) l0).trans (hq 4 _ rfl))
   have y5:=fun z=>((ext_below ((ext w y).alloc (.cells #[.slice NA nn nc,.slice MA mn mc,.bool lt] 61)) z).cell (p:=⟨w.heap.size,5,none⟩) l0k).trans ((hbk.cell (p:=⟨w.heap.size,5,none⟩) l0).trans (hq 5 _ rfl))
   have r0:=fun z=>((ext_below ((ext w y).alloc (.cells #[.slice NA nn nc,.slice MA mn mc,.bool lt] 61)) z).cell (p:=⟨(ext w y).heap.size,0,none⟩) lik).trans (show ((ext w y).alloc (.cells #[.slice NA nn nc,.slice MA mn mc,.bool lt] 61)).cell? ⟨(ext w y).heap.size,0,none⟩ = some (.slice NA nn nc) from by simp [go_sem])
   have r1:=fun z=>((ext_below ((ext w y).alloc (.cells #[.slice NA nn nc,.slice MA mn mc,.bool lt] 61)) z).cell (p:=⟨(ext w y).heap.size,1,none⟩) lik).trans (show ((ext w y).alloc (.cells #[.slice NA nn nc,.slice MA mn mc,.bool lt] 61)).cell? ⟨(ext w y).heap.size,1,none⟩ = some (.slice MA mn mc) from by simp [go_sem])
   have r2:=fun z=>((ext_below ((ext w y).alloc (.cells #[.slice NA nn nc,.slice MA mn mc,.bool lt] 61)) z).cell (p:=⟨(ext w y).heap.size,2,none⟩) lik).trans (show ((ext w y).alloc (.cells #[.slice NA nn nc,.slice MA mn mc,.bool lt] 61)).cell? ⟨(ext w y).heap.size,2,none⟩ = some (.bool lt) from by simp [go_sem])
   have hwk : Below w.heap.size w ((ext w y).alloc (.cells #[.slice NA nn nc,.slice MA mn mc,.bool lt] 61)):=by repeat first | exact .refl _ _ | assumption | refine bExt ?_ _ | refine bAlloc ?_ _ | refine bDrewN ?_ _ | refine bDrew ?_ | refine bSet ?_ (by first | exact Nat.le_refl _ | omega | (simp <;> omega)) _
   have F3:=hF.below' hbk (Nat.le_refl _);clear hq hcl hM hnc hmc;go_wp2
   go_loopw [10,20] (fun _ i wz=>∃ (j : Nat) (z : World),j <= nn /\ i = .int .i64 j /\ wz = ext ((ext w y).alloc (.cells #[.slice NA nn nc,.slice MA mn mc,.bool lt] 61)) z) (fun _ i _=>nn - (intOf i).toNat)
   case atStart=>exact ⟨0,_,Om,rfl,ext_self _⟩
   case round =>
    obtain ⟨j,z,hj,rfl,rfl⟩:=hrel;by_cases hjl : j < nn
    ·
     obtain ⟨g,of2,rfl,hg,hcn⟩:=hN.open_ Om;have hcj:=((hwk.trans ((ext_below ((ext w y).alloc (.cells #[.slice (some ⟨g,of2,none⟩) nn nc,.slice MA mn mc,.bool lt] 61)) z).mono hwk.size)).cell (p:=⟨g,of2 + j,none⟩) hg).trans (hcn j hjl);clear hcn;generalize l[j]?.getD ByteArray.empty = nm at *;have cn:=fun W h=>pgName_any W A B n m c d els lims q0 q1 q2 q3 (hc.below h) hv (some ⟨b,off,none⟩) n2 c2 its (ha.below h) (some ⟨g,of2,none⟩) MA nn nc mn mc lt nm rule
     unfold RetAB at cn;have hwz : Below w.heap.size w (ext ((ext w y).alloc (.cells #[.slice (some ⟨g,of2,none⟩) nn nc,.slice MA mn mc,.bool lt] 61)) z):=hwk.trans ((ext_below ((ext w y).alloc (.cells #[.slice (some ⟨g,of2,none⟩) nn nc,.slice MA mn mc,.bool lt] 61)) z).mono hwk.size);go_wp2_with ((go_at_call 266;((with_reducible refine (cn _ (by assumption)).mono ?_);rintro e w' ⟨bb,x1,rfl,rfl⟩)))
     all_goals first
      | (go_ret;exact RetAB.mk_ bL)
      | (obtain ⟨z2,hz2⟩:=ext_ex (show Below ((ext w y).alloc (.cells #[.slice (some ⟨g,of2,none⟩) nn nc,.slice MA mn mc,.bool lt] 61)).heap.size ((ext w y).alloc (.cells #[.slice (some ⟨g,of2,none⟩) nn nc,.slice MA mn mc,.bool lt] 61)) (ext (ext ((ext w y).alloc (.cells #[.slice (some ⟨g,of2,none⟩) nn nc,.slice MA mn mc,.bool lt] 61)) z) x1) from bL);go_roundw;(case rel=>exact ⟨j + 1,z2,Om,by go_num,hz2⟩);(case measure=>simp [intOf];omega))
    ·
     obtain rfl : j = nn:=Om;have F4:=F3.below' (ext_below _ z) (Nat.le_refl _);go_wp2;obtain ⟨y2,hy2⟩:=ext_ex (show Below w.heap.size w (ext ((ext w y).alloc (.cells #[.slice NA j nc,.slice MA mn mc,.bool lt] 61)) z) from bL);go_roundw
     case rel=>exact ⟨k + 1,R,y2,Om,by go_num,hy2,F4,e0⟩
     case measure=>simp [intOf];omega
  ·
   obtain rfl : k = n2:=Om;go_wp2;go_ret;exact RetAB.mk_ bL
theorem pgHolds_any (w : World) (A B : OA) (n m c d : Nat) (els : List El) (lims : List Int) (q0 q1 q2 q3 : Int) (hc : CodeR w A n B m els lims) (hv : codeB els lims q0 q1 q2 q3 = true) (I : OA) (n2 c2 : Nat) (its : List It) (ha : ItsR w I n2 c2 its) (hg : itemsB its = true) (rule : Int) :
  Calls Tryz.prog 243 #[.agg #[.slice A n c,.slice B m d,.int .i64 q0,.int .i64 q1,.int .i64 q2,.int .i64 q3],.slice I n2 c2,.int .i64 rule] w (RetAB w):=by
 have cc:=fun W h=>pgClean_any W I n2 c2 its (ha.below h)
 have cb:=fun W h=>pgCombined_any W I n2 c2 its (ha.below h)
 have ch:=fun W h=>pgHalf_any W I n2 c2 its (ha.below h)
 have cn:=fun W h=>pgNames_any W A B n m c d els lims q0 q1 q2 q3 (hc.below h) hv I n2 c2 its (ha.below h) rule
 have ct:=fun W h=>pgCounts_any W A B n m c d els lims q0 q1 q2 q3 (hc.below h) hv I n2 c2 its (ha.below h) hg
 unfold RetAB at cc ch cn;unfold RetAII at cb;unfold RetCn at ct;have hL5:=lims_of hv;have hB:=hc.2.1;have hBl:=hB.len;clear hc ha hg hv;by_cases h1 : rule = 1
 ·
  subst h1;go_enter Tryz.func243,Tryz.ntmps243;go_wp2;go_ret;exact RetAB.mk_ bL
 by_cases h3 : rule = 3
 ·
  subst h3;go_enter Tryz.func243,Tryz.ntmps243;go_wp2_with ((go_at_call 258;((with_reducible refine (cc _ bL).mono ?_);rintro e w' ⟨bb,x1,rfl,rfl⟩)))
  go_ret;exact RetAB.mk_ bL
 by_cases h5 : rule = 5
 ·
  subst h5;go_enter Tryz.func243,Tryz.ntmps243;go_wp2_with ((go_at_call 259;((with_reducible refine (cb _ bL).mono ?_);rintro e w' ⟨i,j,x1,rfl,rfl⟩)))
  all_goals (go_ret;exact RetAB.mk_ bL)
 by_cases h6 : rule = 6
 ·
  subst h6;have hm5 : m = 5:=Om;subst hm5;clear h1 h3 h5 cc cb ch cn;obtain ⟨bl,ol,rfl,hbl,hcl⟩:=hB.open_ Om;go_enter Tryz.func243,Tryz.ntmps243;go_wp2_with ((go_at_call 260;((with_reducible refine (ct _ bL).mono ?_);rintro e w' ⟨A5,LL,x1,rfl,rfl,o5⟩)))
  obtain ⟨g5,rfl,hg5,hg5'⟩:=o5.form_ Om;have hbx : Below w.heap.size w (ext (w.alloc (.cells #[.slice A n c,.slice (some ⟨bl,ol,none⟩) 5 d,.int .i64 q0,.int .i64 q1,.int .i64 q2,.int .i64 q3] 27)) x1):=by repeat first | exact .refl _ _ | assumption | refine bExt ?_ _ | refine bAlloc ?_ _ | refine bDrewN ?_ _ | refine bDrew ?_ | refine bSet ?_ (by first | exact Nat.le_refl _ | omega | (simp <;> omega)) _
  have hlw : w.heap.size < (w.alloc (.cells #[.slice A n c,.slice (some ⟨bl,ol,none⟩) 5 d,.int .i64 q0,.int .i64 q1,.int .i64 q2,.int .i64 q3] 27)).heap.size:=by simp [go_sem]
  have yl:=(ext_below (w.alloc (.cells #[.slice A n c,.slice (some ⟨bl,ol,none⟩) 5 d,.int .i64 q0,.int .i64 q1,.int .i64 q2,.int .i64 q3] 27)) x1).cell (p:=⟨w.heap.size,1,none⟩) hlw |>.trans (show (w.alloc (.cells #[.slice A n c,.slice (some ⟨bl,ol,none⟩) 5 d,.int .i64 q0,.int .i64 q1,.int .i64 q2,.int .i64 q3] 27)).cell? ⟨w.heap.size,1,none⟩ = some (.slice (some ⟨bl,ol,none⟩) 5 d) from by simp [go_sem])
  have hcb:=fun j hj=>(hbx.cell (p:=⟨bl,ol + j,none⟩) hbl).trans (hcl j hj)
  have hcL:=fun j hj=>o5.cell_ j hj
  generalize (ext (w.alloc (.cells #[.slice A n c,.slice (some ⟨bl,ol,none⟩) 5 d,.int .i64 q0,.int .i64 q1,.int .i64 q2,.int .i64 q3] 27)) x1) = WX at *
  go_loopw [9,10,40] (fun _ _ i wz=>∃ j : Nat,j <= 5 /\ i = .int .i64 j /\ wz = WX) (fun _ _ i _=>5 - (intOf i).toNat)
  case atStart=>exact ⟨0,Om,rfl,rfl⟩
  case round =>
   obtain ⟨j,hj,rfl,rfl⟩:=hrel;by_cases hjl : j < 5
   ·
    have hc1:=hcb j hjl;have hc2:=hcL j hjl;generalize lims.getD j 0 = lm at *;generalize LL[j]?.getD 0 = lv at *;have hj5 : (j : Int) < 5:=Om;have hj0 : (0 : Int) <= j:=Om;clear hcb hcL;by_cases hgt : lm < lv
    ·
     go_wp2;go_ret;exact RetAB.mk_ (by assumption)
    ·
     go_wp2;go_roundw
     case rel=>exact ⟨j + 1,Om,by go_num,trivial⟩
     case measure=>simp [intOf];omega
   ·
    obtain rfl : j = 5:=Om;go_wp2;go_ret;exact RetAB.mk_ (by assumption)
 by_cases h8 : rule = 8
 ·
  subst h8;go_enter Tryz.func243,Tryz.ntmps243;go_wp2_with ((go_at_call 261;((with_reducible refine (ch _ bL).mono ?_);rintro e w' ⟨bb,x1,rfl,rfl⟩)))
  go_ret;exact RetAB.mk_ bL
 ·
  go_enter Tryz.func243,Tryz.ntmps243;go_wp2_with ((go_at_call 262;((with_reducible refine (cn _ bL).mono ?_);rintro e w' ⟨bb,x1,rfl,rfl⟩)))
  go_ret;exact RetAB.mk_ bL
def RetAI (w : World) (e : Ending) (w' : World) : Prop:=∃ (A : OA) (n c : Nat) (x : World),e = .returned (.slice A n c) /\ w' = ext w x
theorem RetAI.mk_ {w W : World} {A : OA} {n c : Nat} (h : Below w.heap.size w W) : RetAI w (.returned (.slice A n c)) W:=by
 obtain ⟨x,rfl⟩:=ext_ex h;exact ⟨A,n,c,x,rfl,rfl⟩
theorem pgFaults_any (w : World) (A B : OA) (n m c d : Nat) (els : List El) (lims : List Int) (q0 q1 q2 q3 : Int) (hc : CodeR w A n B m els lims) (hv : codeB els lims q0 q1 q2 q3 = true) (I : OA) (n2 c2 : Nat) (its : List It) (ha : ItsR w I n2 c2 its) (hg : itemsB its = true) :
  Calls Tryz.prog 217 #[.agg #[.slice A n c,.slice B m d,.int .i64 q0,.int .i64 q1,.int .i64 q2,.int .i64 q3],.slice I n2 c2] w (RetAI w):=by
 have sz : ∀ (W : World) (o : Obj),(W.alloc o).heap.size = W.heap.size + 1:=fun W o=>by simp [go_sem]
 have F1:=(Fo.nil_ (b:=w.heap.size) (hi:=w.heap.size) (w:=w)).lit (j:=(9,0)) rfl (Nat.le_refl _) (Nat.le_refl _) 27 6 1 #[.slice A n c,.slice B m d,.int .i64 q0,.int .i64 q1,.int .i64 q2,.int .i64 q3] rfl (by simp [maxLen]) _ rfl;have F2:=F1.put (j:=(0,0)) (r:=rowI none 0 0 []) (World.grownBy.refl _ _) Ow.nil_ (.inr (.inl rfl)) (Nat.le_refl _) (fun z hz=>by cases hz);go_enter Tryz.func217,Tryz.ntmps217;go_wp2
 go_loopw [5,6] (fun t i wr=>∃ (r : Nat) (R : Fam) (D : OA) (q dc : Nat) (LL : List Int) (y : World),r <= 9 /\ q <= r /\ i = .int .i64 r /\ t = .slice D q dc /\ wr = ext w y /\ Fo w.heap.size wr.heap.size wr R /\ R (9,0) = ⟨27,6,some ⟨w.heap.size,0,none⟩,1,1,[.slice A n c,.slice B m d,.int .i64 q0,.int .i64 q1,.int .i64 q2,.int .i64 q3]⟩ /\ R (0,0) = rowI D q dc LL) (fun _ i _=>9 - (intOf i).toNat)
 case atStart =>
  obtain ⟨y,hy⟩:=ext_ex (show Below w.heap.size w (w.alloc (oC A n c B m d q0 q1 q2 q3)) from bL);exact ⟨1,_,none,0,0,[],y,Om,Om,rfl,rfl,hy,F2.mono (Nat.le_refl _) (by simp only [sz];omega),by simp [upd],by simp [upd]⟩
 case round =>
  obtain ⟨r,R,D,q,dc,LL,y,hr,hqr,rfl,rfl,rfl,hF,e0,e1⟩:=hrel;clear F1 F2;by_cases hlt : r <= 8
  ·
   have hltI : (r : Int) <= 8:=Om;have cp:=fun W h=>pgHolds_any W A B n m c d els lims q0 q1 q2 q3 (hc.below h) hv I n2 c2 its (ha.below h) hg r
   unfold RetAB at cp;have hq:=fun i v hv=>(hF.cell e0 i v hv).1
   have y0:=hq 0 _ rfl;have y1:=hq 1 _ rfl;have y2:=hq 2 _ rfl;have y3:=hq 3 _ rfl;have y4:=hq 4 _ rfl;have y5:=hq 5 _ rfl;have ho:=hF.ownI e1;have hqb : q <= 1099511627776:=Om;clear hq;go_wp2_with (first | (go_at_call 243;((with_reducible refine (cp _ bL).mono ?_);rintro e w' ⟨bb,x1,rfl,rfl⟩;have F3:=hF.below' (ext_below _ x1) (Nat.le_refl _))) | (at_builtin;(refine wpl_push_int w _ _ _ ?_ rfl _ _ rfl D q dc _ rfl ho ?_ ?_ rfl hqb ?_);(focus (first | rfl | (simp;done)));exact bL;exact bL;intro D' c' y' ho' hg' hd'))
   ·
    have F4:=F3.grewI e1 hg' ho' hd' (Nat.le_refl _);go_roundw
    case rel=>exact ⟨r + 1,_,D',q + 1,c',LL ++ [(r : Int)],y',Om,Om,by go_num,rfl,rfl,F4,by simp [upd,e0],by simp [upd]⟩
    case measure=>simp [intOf];omega
   ·
    obtain ⟨y2,hy2⟩:=ext_ex (show Below w.heap.size w (ext (ext w y) x1) from bL);go_roundw
    case rel=>exact ⟨r + 1,R,D,q,dc,LL,y2,Om,Om,by go_num,rfl,hy2,F3,e0,e1⟩
    case measure=>simp [intOf];omega
  ·
   obtain rfl : r = 9:=Om;go_wp2;go_ret;exact RetAI.mk_ bL
theorem pgAsked_any (w : World) (A B : OA) (n m c d : Nat) (els : List El) (lims : List Int) (q0 q1 q2 q3 : Int) (hc : CodeR w A n B m els lims) (I : OA) (n2 c2 : Nat) (its : List It) (ha : ItsR w I n2 c2 its) :
  Calls Tryz.prog 216 #[.agg #[.slice A n c,.slice B m d,.int .i64 q0,.int .i64 q1,.int .i64 q2,.int .i64 q3],.slice I n2 c2] w (fun e w'=>e = .returned (.bool (codeB els lims q0 q1 q2 q3 && itemsB its)) /\ ∃ x,w' = ext w x):=by
 have ci:=fun W h=>cdGood_any W A B n m c d els lims q0 q1 q2 q3 (hc.below h).1 (hc.below h).2.1 hc.2.2.1 hc.2.2.2.1 hc.2.2.2.2
 have cl:=fun W h=>itList_any W I n2 c2 its (ha.below h).1 ha.2.1 ha.2.2.2
 clear hc ha
 cases h1 : codeB els lims q0 q1 q2 q3
 ·
  rw [h1] at ci;go_enter Tryz.func216,Tryz.ntmps216;go_wp2_with ((go_at_call 51;((with_reducible refine ex (ci _ bL) ?_);intro x1)))
  go_ret;exact ⟨rfl,ext_ex bL⟩
 ·
  rw [h1] at ci;go_enter Tryz.func216,Tryz.ntmps216;go_wp2_with (first | (go_at_call 51;((with_reducible refine ex (ci _ bL) ?_);intro x1)) | (go_at_call 212;((with_reducible refine ex (cl _ bL) ?_);intro x2)))
  go_ret;exact ⟨rfl,ext_ex bL⟩
theorem pgGood_any (w : World) (A B : OA) (n m c d : Nat) (els : List El) (lims : List Int) (q0 q1 q2 q3 : Int) (hc : CodeR w A n B m els lims) (I : OA) (n2 c2 : Nat) (its : List It) (ha : ItsR w I n2 c2 its) :
  Calls Tryz.prog 171 #[.agg #[.slice A n c,.slice B m d,.int .i64 q0,.int .i64 q1,.int .i64 q2,.int .i64 q3],.slice I n2 c2] w (RetAB w):=by
 have cq:=fun W h=>pgAsked_any W A B n m c d els lims q0 q1 q2 q3 (hc.below h) I n2 c2 its (ha.below h)
 have cf:=fun (hv : codeB els lims q0 q1 q2 q3 = true) (hg : itemsB its = true) W (h : Below w.heap.size w W)=>pgFaults_any W A B n m c d els lims q0 q1 q2 q3 (hc.below h) hv I n2 c2 its (ha.below h) hg
 clear hc ha
 cases hb : (codeB els lims q0 q1 q2 q3 && itemsB its)
 ·
  rw [hb] at cq;go_enter Tryz.func171,Tryz.ntmps171;go_wp2_with ((go_at_call 216;((with_reducible refine (cq _ bL).mono ?_);rintro e w' ⟨rfl,x1,rfl⟩)))
  go_ret;exact RetAB.mk_ bL
 ·
  rw [hb] at cq;rw [Bool.and_eq_true] at hb;have cf:=cf hb.1 hb.2;unfold RetAI at cf;clear hb;go_enter Tryz.func171,Tryz.ntmps171;go_wp2_with (first | (go_at_call 216;((with_reducible refine (cq _ bL).mono ?_);rintro e w' ⟨rfl,x1,rfl⟩)) | (go_at_call 217;((with_reducible refine (cf _ bL).mono ?_);rintro e w' ⟨A5,n5,c5,x2,rfl,rfl⟩)))
  go_ret;exact RetAB.mk_ bL
end Go.Proofs.YtlfhhkgleapamaaGreatDoor
