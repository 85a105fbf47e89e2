/- Contracts of the digest of a string and of the links of a chain, in the program and in the reference. Conditions: strings below 2^40 bytes. -/
import Derived.Test.YtlfhhkgleapamaaGreatDoorRBase0
import Derived.Test.YtlfhhkgleapamaaGreatDoorRStrs0
import Derived.Test.YtlfhhkgleapamaaGreatDoorRPar7s
import Derived.Deep.AppendLies
import Derived.Deep.RegionHeld3
import Derived.Test.YtlfhhkgleapamaaGreatDoorRSpB
set_option linter.unusedVariables false
set_option linter.unusedSimpArgs false
set_option maxRecDepth 100000
set_option maxHeartbeats 16000000
namespace Go.Proofs.YtlfhhkgleapamaaGreatDoor
open Go.RowKit
section
variable {ops : Array Oper} {rest : List Oper} {o : Oper} {a : Act} {Q : Exit -> Act -> World -> Prop}
end

theorem pro_perf {els : List El} {lims : List Int} {q0 q1 q2 q3 : Int} {its : List It} {gg kk : List (List Int)} {s1 s2 s3 sk fa : Int} (h : proB els lims q0 q1 q2 q3 its gg kk s1 s2 s3 sk fa = true) : perfB els lims q0 q1 q2 q3 its gg kk s1 s2 s3 = true:=by
 simp only [proB,askB,Bool.and_eq_true] at h;exact h.1.1
theorem isMark_any (v : Int) (w : World) : Calls Tryz.prog 58 #[.int .i64 v] w fun e w'=>e = .returned (.bool (inB v 0 3)) /\ w = w':=by
 have cw:=fun W=>within_any v 0 3 W
 go_enter Tryz.func58,Tryz.ntmps58;go_wp2_with ((go_at_call 64;(with_reducible refine ep (cw _) ?_)))
 go_ret;exact ⟨rfl,rfl⟩
def RetItm (w : World) (it : It) (e : Ending) (w' : World) : Prop:=∃ NA nn nc MA mn mc x,e = .returned (.agg #[.slice NA nn nc,.slice MA mn mc,.bool it.2.2]) /\ w' = ext w x /\ OwT w.heap.size (ext w x) NA nn nc it.1 /\ OwI w.heap.size (ext w x) MA mn mc it.2.1 /\ (blkOf NA = none ∨ blkOf NA ≠ blkOf MA)
theorem step_app_str {ops : Array Oper} {o : Oper} {a : Act} {K : Act -> World -> Prop} {Q : Exit -> Act -> World -> Prop} {E : Prop} (R : World) {W : World} (hgd : o.guard = none) (s x : Operand) (ho : o.op = .call { callee:=.builtin .append,args:=#[s,x],argTypes:=#[59,59] })
  (A : OA) (n c : Nat) (l : List ByteArray) (hs : a.eval s = .slice A n c) {W₀ : World} (hown₀ : OwT R.heap.size W₀ A n c l) (hW₀ : Below W₀.heap.size W₀ W) (hR : Below R.heap.size R W)
  (B : OA) (m d : Nat) (r : List ByteArray) (hx : a.eval x = .slice B m d) {W₁ : World} (hr₁ : RdT W₁ B m r) (hW₁ : Below W₁.heap.size W₁ W) (hn : n + m <= 1099511627776)
  (h : ∀ A' c' y,OwT R.heap.size (ext R y) A' (n + m) c' (l ++ r) -> W.grownBy (ext R y) (blkOf A) -> (blkOf A' = blkOf A ∨ blkOf A' = some W.heap.size) -> K (a.put o.dst (.slice A' (n + m) c')) (ext R y)) :
  if Region.wanted o (yielded ops a.tmps) = true then Oper.wp Tryz.prog o a W K Q else E:=by
 have hown:=hown₀.below hW₀;have hr:=hr₁.below hW₁;obtain ⟨i0,hi0,hz0,hz1,hz2⟩:=info_parts string_info;obtain ⟨v',w',hrun,h2,h3,h4⟩:=run_append_rd (P:=Tryz.prog) W R.heap.size 59 o.type 9 i0 (.string ByteArray.empty) 1 16 Tryz.underlying59 hi0 hz0 hz1 hz2 rfl Om (.slice A n c) n (l.map Value.string) hown B m d (r.map Value.string) hr
  (by intro u hu;simp only [List.mem_map] at hu;obtain ⟨z,_,rfl⟩:=hu;rfl) (by simp only [maxLen];omega) Om hR.size
 have hw : Region.wanted o (yielded ops a.tmps) = true:=by simp [Region.wanted,hgd]
 rw [if_pos hw];unfold Oper.wp execOp;simp only [ho,resolve,invoke,builtin,Sem.run_bind,Sem.run_pure,Result.andThen_ok,List.map_toArray,List.map_cons,List.map_nil,hs,hx,hrun];rw [ownBlock_slice] at h3 h4;have hBw : Below R.heap.size R w':=below_grown hR h3 (fun k hk=>(hown.blk hk).1);obtain ⟨y,rfl⟩:=ext_ex hBw;have hm : l.map Value.string ++ r.map Value.string = (l ++ r).map Value.string:=by simp
 rw [hm] at h2
 rcases h2.2 with ⟨hv,h0⟩ | ⟨g',cap,cur,hv,hrest⟩
 ·
  subst hv;rw [ownBlock_slice] at h4;have e : Value.slice none 0 0 = .slice none (n + m) 0:=by rw [h0]
  rw [e] at h2 ⊢;exact h none 0 y h2 h3 h4
 ·
  subst hv;rw [ownBlock_slice] at h4;exact h _ _ y h2 h3 h4
theorem copyItem_any (w : World) (NA MA : OA) (nn nc mn mc : Nat) (l : List ByteArray) (ml : List Int) (lt : Bool) (hN : RdT w NA nn l) (hM : RdI w MA mn ml) (hn : nn <= 1099511627776) (hm : mn <= 1099511627776) :
  Calls Tryz.prog 155 #[.agg #[.slice NA nn nc,.slice MA mn mc,.bool lt]] w (RetItm w (l,ml,lt)):=by
 have o0 : ∀ R : World,OwT R.heap.size (R.alloc (.cells #[] 9)) (some ⟨R.heap.size,0,none⟩) 0 0 []:=fun R=>OwT.lit_ (Below.refl R.heap.size R) [] (by simp [maxLen]) #[] rfl
 have hn0 : 0 + nn <= 1099511627776:=Om;have ci:=fun W h=>copyInts_any W MA mn mc ml (hM.below h) hm
 have sb : ((w.alloc (.cells #[.slice NA nn nc,.slice MA mn mc,.bool lt] 61)).alloc (.cells #[.slice none 0 0,.slice none 0 0,.bool false] 61)).heap.size = w.heap.size + 1 + 1:=by simp [go_sem]
 have o9 : OwT ((w.alloc (.cells #[.slice NA nn nc,.slice MA mn mc,.bool lt] 61)).alloc (.cells #[.slice none 0 0,.slice none 0 0,.bool false] 61)).heap.size (((w.alloc (.cells #[.slice NA nn nc,.slice MA mn mc,.bool lt] 61)).alloc (.cells #[.slice none 0 0,.slice none 0 0,.bool false] 61)).alloc (.cells #[] 9)) (some ⟨w.heap.size + 1 + 1,0,none⟩) 0 0 []:=by
  have:=o0 ((w.alloc (.cells #[.slice NA nn nc,.slice MA mn mc,.bool lt] 61)).alloc (.cells #[.slice none 0 0,.slice none 0 0,.bool false] 61))
  rwa [show (⟨((w.alloc (.cells #[.slice NA nn nc,.slice MA mn mc,.bool lt] 61)).alloc (.cells #[.slice none 0 0,.slice none 0 0,.bool false] 61)).heap.size,0,none⟩ : Addr) = ⟨w.heap.size + 1 + 1,0,none⟩ from by rw [sb]] at this
 have hS:=fun (W : World) (h : Below (w.alloc (.cells #[.slice NA nn nc,.slice MA mn mc,.bool lt] 61)).heap.size (w.alloc (.cells #[.slice NA nn nc,.slice MA mn mc,.bool lt] 61)) W)=>(⟨(h.cell (p:=⟨w.heap.size,0,none⟩) Sg).trans Sg,(h.cell (p:=⟨w.heap.size,1,none⟩) Sg).trans Sg,(h.cell (p:=⟨w.heap.size,2,none⟩) Sg).trans Sg⟩ : W.cell? ⟨w.heap.size,0,none⟩ = some (.slice NA nn nc) /\ W.cell? ⟨w.heap.size,1,none⟩ = some (.slice MA mn mc) /\ W.cell? ⟨w.heap.size,2,none⟩ = some (.bool lt))
 go_enter Tryz.func155,Tryz.ntmps155;go_wp2
 go_region_held3 (fun w'=>w'.cell? ⟨w.heap.size,0,none⟩ = some (.slice NA nn nc) /\ w'.cell? ⟨w.heap.size,1,none⟩ = some (.slice MA mn mc) /\ w'.cell? ⟨w.heap.size,2,none⟩ = some (.bool lt)) (exact hS _ bL) (first | (go_at_call 204;((with_reducible refine (ci _ bL).mono ?_);rintro e w' ⟨M',m',d',x1,rfl,rfl,o1⟩)) | ((refine step_app_str ((w.alloc (.cells #[.slice NA nn nc,.slice MA mn mc,.bool lt] 61)).alloc (.cells #[.slice none 0 0,.slice none 0 0,.bool false] 61)) (by rfl) _ _ (by rfl) (some ⟨w.heap.size + 1 + 1,0,none⟩) 0 0 [] (by rfl) o9 bL bL NA nn nc l (by rfl) hN bL hn0 ?_);intro A' c' y ho hg hd) | ((refine step_app_str (ext ((w.alloc (.cells #[.slice NA nn nc,.slice MA mn mc,.bool lt] 61)).alloc (.cells #[.slice none 0 0,.slice none 0 0,.bool false] 61)).drew x1) (by rfl) _ _ (by rfl) (some ⟨(ext ((w.alloc (.cells #[.slice NA nn nc,.slice MA mn mc,.bool lt] 61)).alloc (.cells #[.slice none 0 0,.slice none 0 0,.bool false] 61)).drew x1).heap.size,0,none⟩) 0 0 [] (by rfl) (o0 _) bL bL NA nn nc l (by rfl) hN bL hn0 ?_);intro A' c' y ho hg hd))
 simp only [Nat.zero_add,List.nil_append] at ho;go_wp2;refine bodyPost_ret (v:=.agg #[.slice A' nn c',.slice M' m' d',.bool lt]) (by simp [results,Tryz.results155,go_sem]) rfl ?_;have hwb : Below w.heap.size w ((w.alloc (.cells #[.slice NA nn nc,.slice MA mn mc,.bool lt] 61)).alloc (.cells #[.slice none 0 0,.slice none 0 0,.bool false] 61)):=bqq;clear hg hd hS hN hM o9 o0 ci;generalize ((w.alloc (.cells #[.slice NA nn nc,.slice MA mn mc,.bool lt] 61)).alloc (.cells #[.slice none 0 0,.slice none 0 0,.bool false] 61)) = Wb at *;have h1:=ext_le Wb y;have hWF : Below w.heap.size w ((((ext (ext Wb y) x1).setCell ⟨w.heap.size + 1,0,none⟩ (.slice A' nn c')).setCell ⟨w.heap.size + 1,1,none⟩ (.slice M' m' d')).setCell ⟨w.heap.size + 1,2,none⟩ (.bool lt)):=bqq;have q1:=(((ho.below (ext_below _ x1)).setLow (g:=w.heap.size + 1) (k:=0) (v:=.slice A' nn c') Om).setLow (g:=w.heap.size + 1) (k:=1) (v:=.slice M' m' d') Om).setLow (g:=w.heap.size + 1) (k:=2) (v:=.bool lt) Om;have q2:=((o1.setLow (g:=w.heap.size + 1) (k:=0) (v:=.slice A' nn c') Om).setLow (g:=w.heap.size + 1) (k:=1) (v:=.slice M' m' d') Om).setLow (g:=w.heap.size + 1) (k:=2) (v:=.bool lt) Om;have hne : blkOf A' = none ∨ blkOf A' ≠ blkOf M':=by
  cases hz : blkOf A' with
  | none=>exact .inl rfl
  | some z=>exact .inr fun e=>by have h2:=(Ow.blk ho hz).2;have h3:=(Ow.blk o1 e.symm).1;omega
 obtain ⟨z,hz⟩:=ext_ex hWF;rw [hz] at q1 q2;exact ⟨A',nn,c',M',m',d',z,rfl,hz,q1.mono Om,q2.mono Om,hne⟩
def RetIts (w : World) (its : List It) (e : Ending) (w' : World) : Prop:=∃ I n c x R,e = .returned (.slice I n c) /\ w' = ext w x /\ Fo w.heap.size (ext w x).heap.size (ext w x) R /\ ItF R I n c its
theorem copyItems_any (w : World) (A : OA) (n c : Nat) (its : List It) (ha : ItsR w A n c its) :
  Calls Tryz.prog 107 #[.slice A n c] w (RetIts w its):=by
 have Hl:=Lib.hid ha.1.len;have Hs:=Lib.hid ha.2.2.2;have hn:=ha.2.1;go_enter Tryz.func107,Tryz.ntmps107;go_wp2
 go_loopw [3,5,9] (fun t _ i wr=>∃ (k : Nat) (R : Fam) (I : OA) (dc : Nat) (y : World),k <= n /\ i = .int .i64 k /\ t = .slice I k dc /\ wr = ext w y /\ Fo w.heap.size wr.heap.size wr R /\ ItF R I k dc (its.take k)) (fun _ _ i _=>n - (intOf i).toNat)
 case atStart =>
  obtain ⟨y,hy⟩:=ext_ex (show Below w.heap.size w (w.alloc (.cells #[] 61)) from bL);have F1:=(Fo.nil_ (b:=w.heap.size) (hi:=w.heap.size) (w:=w)).lit (j:=(0,0)) rfl (Nat.le_refl _) (Nat.le_refl _) 61 3 0 #[] rfl (by simp [maxLen]) [] rfl;exact ⟨0,_,_,0,y,Om,rfl,rfl,hy,F1.mono (Nat.le_refl _) Sg,⟨rfl,⟨[],rfl,by rw [upd_same];rfl,fun j hj=>absurd hj Om⟩,fun j _=>by simp [upd,famN]⟩⟩
 case round =>
  obtain ⟨k,R,I,dc,y,hk,rfl,rfl,rfl,hF,hI⟩:=hrel;by_cases hlt : k < n
  ·
   obtain ⟨b,off,rfl,hb,hc⟩:=ha.1.2 Om;obtain ⟨NA,nn,nc,MA,mn,mc,c0,c1,c2,hN,hM,hnc,hmc⟩:=hc k hlt;have HT:=Lib.hid (take_succ_getD zIt its k (by rw [Hl.out];exact hlt));have hsm:=Hs.out _ (getD_mem zIt its k (by rw [Hl.out];exact hlt));have hkb : k <= 1099511627776:=Om;have hnn : nn <= 1099511627776:=by rw [<- hN.len];exact hsm.1
   have hmn : mn <= 1099511627776:=by rw [<- hM.len];exact hsm.2.1
   clear hc hsm hnc hmc;generalize its[k]?.getD zIt = it at *;obtain ⟨l,ml,lt⟩:=it;simp only at c2 hN hM;have ct:=fun W h=>copyItem_any W NA MA nn nc mn mc l ml lt (hN.below h) (hM.below h) hnn hmn
   unfold RetItm at ct;simp only at ct;obtain ⟨xs,e0,_⟩:=hI.push (l,ml,lt) (none) 0 0 none 0 0;have hOwn:=hF.at_ e0;have hz:=hI.2.2 k (Nat.le_refl _);clear hN hM hnn hmn;go_wp2_with (first | (go_at_call 155;((with_reducible refine (ct _ bL).mono ?_);rintro e w' ⟨NA',nn',nc',MA',mn',mc',x2,rfl,rfl,oN,oM,hne⟩)) | (at_builtin;(refine wpl_push_item w _ _ _ _ ?_ _ ?_ rfl _ _ rfl I k dc _ rfl (Nat.le_refl _) ?_ hOwn ?_ ?_ rfl hkb ?_);(focus (exact ⟨rfl,rfl,rfl⟩));(focus (first | rfl | (simp;done)));(focus (refine szOf ?_;exact bL));exact bL;exact bL;intro I' c' y' ho' hg' hd'))
   obtain ⟨xs2,e02,hpush⟩:=hI.push (l,ml,lt) NA' nn' nc' MA' mn' mc';have hxs : xs2 = xs:=by rw [e0] at e02;injection e02 with _ _ _ _ _ h;exact h.symm
   subst hxs;have F1:=hF.below' (bAlloc (Below.refl _ _) (.cells #[.slice NA nn nc,.slice MA mn mc,.bool lt] 61)) (Nat.le_refl _);have F2:=F1.add2 (j:=(3,k)) (i:=(4,k)) (r:=rowT NA' nn' nc' l) (r2:=rowI MA' mn' mc' ml) (by simp) hz.1 hz.2 (ext_below _ x2) (Nat.le_refl _) (Nat.le_refl _) (Nat.le_trans (ext_le w y) (szOf (bAlloc (Below.refl _ _) _))) oN oM hne;have F3:=F2.grew (j:=(0,0)) (by rw [upd_ne _ _ (by simp),upd_ne _ _ (by simp)];exact e0) hg' ho' hd' (Nat.le_refl _);go_roundw
   case rel=>exact ⟨k + 1,_,I',c',y',Om,by go_num,rfl,rfl,F3,by rw [HT.out];exact hpush I' c'⟩
   case measure=>simp [intOf];omega
  ·
   obtain rfl : k = n:=Om;rw [List.take_of_length_le (by rw [Hl.out];exact Nat.le_refl _)] at hI;go_wp2;go_ret;exact ⟨I,k,dc,y,R,rfl,rfl,hF,hI⟩
def hasN (its : List It) (k j : Int) : Bool:=inB k 0 ((its.length : Int) - 1) && inB j 0 (((its[k.toNat]?.getD zIt).1.length : Int) - 1)
theorem recOk_has (its : List It) (k j v : Int) : recOk its k j v = (hasN its k j && inB v 0 3):=by unfold recOk hasN;rw [Bool.and_assoc]
theorem hasNameAt_any (w : World) (A : OA) (n c : Nat) (its : List It) (ha : ItsR w A n c its) (k j : Int) :
  Calls Tryz.prog 57 #[.slice A n c,.int .i64 k,.int .i64 j] w fun e w'=>e = .returned (.bool (hasN its k j)) /\ w = w':=by
 have Hl:=ha.1.len;have hn:=ha.2.1;have e1 : IntKind.i64.wrap ((n : Int) - 1) = (n : Int) - 1:=IntWalk.i64_in _ Om;have cw:=fun W=>within_any k 0 ((n : Int) - 1) W
 have HB : Hid (hasN its k j = (inB k 0 ((n : Int) - 1) && inB j 0 (((its[k.toNat]?.getD zIt).1.length : Int) - 1))):=by unfold Hid hasN;rw [Hl]
 cases h1 : inB k 0 ((n : Int) - 1)
 ·
  rw [h1] at cw HB;clear h1 ha Hl;go_enter Tryz.func57,Tryz.ntmps57;go_wp2_with ((go_at_call 64;(with_reducible refine ep (cw _) ?_)))
  go_ret;exact ⟨ret_bool (by rw [HB.out];rfl),rfl⟩
 ·
  rw [h1] at cw HB;have h2:=inB_iff.1 h1;obtain ⟨i,rfl⟩ : ∃ i : Nat,k = i:=⟨k.toNat,Om⟩;have hi : i < n:=Om;obtain ⟨b,off,rfl,hb,hc⟩:=ha.1.2 Om;obtain ⟨NA,nn,nc,MA,mn,mc,c0,c1,c2,hN,hM,hnc,hmc⟩:=hc i hi;have hsm:=(ha.2.2.2 _ (getD_mem zIt its i Om)).1;have hnl:=hN.len;rw [Int.toNat_natCast,hnl] at HB;rw [hnl] at hsm;have e2 : IntKind.i64.wrap ((nn : Int) - 1) = (nn : Int) - 1:=IntWalk.i64_in _ Om;have cw2:=fun W=>within_any j 0 ((nn : Int) - 1) W
  generalize inB j 0 ((nn : Int) - 1) = bb at *;clear h1 h2 ha Hl hc hN hM hnl c1 c2 hmc;have hi0 : (0 : Int) <= i:=Om;have hiI : (i : Int) < n:=Om;go_enter Tryz.func57,Tryz.ntmps57;go_wp2_with (first | (go_at_call 64;(with_reducible refine ep (cw _) ?_)) | (go_at_call 64;(with_reducible refine ep (cw2 _) ?_)))
  go_ret;exact ⟨ret_bool (by rw [HB.out];rfl),rfl⟩
theorem withCall_any (w : World) (A : OA) (n c : Nat) (its : List It) (ha : ItsR w A n c its) (k j : Nat) (v : Int) (hk : k < its.length) (hj : j < (its[k]?.getD zIt).2.1.length) :
  Calls Tryz.prog 59 #[.slice A n c,.int .i64 k,.int .i64 j,.int .i64 v] w (RetIts w (setIts its k j v)):=by
 have cc:=copyItems_any w A n c its ha;have HK:=Lib.hid hk;have HJ:=Lib.hid hj;have hn:=ha.2.1;have HL:=Lib.hid ha.1.len;have hsm:=(ha.2.2.2 _ (getD_mem zIt its k hk)).2.1;have hcj : Hid (((its[k]?.getD zIt).2.1.map (Value.int .i64))[j]? = some (.int .i64 ((its[k]?.getD zIt).2.1[j]?.getD 0))):=by unfold Hid;rw [List.getElem?_map,List.getElem?_eq_getElem hj];rfl
 clear hk hj ha;go_enter Tryz.func59,Tryz.ntmps59;go_wp2_with ((go_at_call 107;((with_reducible refine (cc).mono ?_);rintro e w' ⟨I',n',c',x,R,rfl,rfl,hF,hI⟩;(obtain rfl : n' = n:=hI.1.symm.trans HL.out);(have hkn : k < n':=by have h1:=HK.out;have h2:=HL.out;omega);(obtain ⟨g,NA,nn,nc,MA,mn,mc,rfl,hgb,hgl,c0,c1,c2,q3,q4,hset⟩:=hI.mk_at hF hkn);(have ho:=hF.at_ q4);(have hml : mn = (its[k]?.getD zIt).2.1.length:=by have:=ho.len;simpa using this.symm);(have hjm : j < mn:=by have:=HJ.out;omega);(obtain ⟨gm,rfl,hmb,hmlt⟩:=Ow.form_ ho Om);(obtain ⟨hc4,hf4⟩:=hF.cell q4 j (.int .i64 ((its[k]?.getD zIt).2.1[j]?.getD 0)) hcj.out);have hm40 : mn <= 1099511627776:=Om)))
 have G1:=hF.store q4 j (.int .i64 v);have eR : upd R (4,k) ⟨3,1,some ⟨gm,0,none⟩,mn,mc,((its[k]?.getD zIt).2.1.map (Value.int .i64)).set j (.int .i64 v)⟩ = upd R (4,k) (rowI (some ⟨gm,0,none⟩) mn mc ((its[k]?.getD zIt).2.1.set j v)):=by unfold rowI;rw [List.map_set]
 rw [eR] at G1;obtain ⟨z,hz⟩:=ext_ex (show Below w.heap.size w ((ext w x).setCell ⟨gm,j,none⟩ (.int .i64 v)) from bSet (ext_below w x) hmb _);have hs : ((ext w x).setCell ⟨gm,j,none⟩ (.int .i64 v)).heap.size = (ext w x).heap.size:=by simp [World.setCell]
 rw [<- hs,hz] at G1;go_ret;exact ⟨_,_,_,z,_,rfl,hz,G1,hset j v⟩
theorem implRecallProtocol_any (w : World) (A B : OA) (n m c d : Nat) (els : List El) (lims : List Int) (q0 q1 q2 q3 : Int) (hc : CodeR w A n B m els lims) (s : ByteArray) (k j v : Int) (hs : s.size <= 1048576) (hM : Mxl w) (hTab : Tab w) (hSg : Sgn w) :
  Calls Tryz.prog 26 #[.agg #[.slice A n c,.slice B m d,.int .i64 q0,.int .i64 q1,.int .i64 q2,.int .i64 q3],.string s,.int .i64 k,.int .i64 j,.int .i64 v] w (RetSK w (recV els q0 q1 q2 q3 (rdP els lims q0 q1 q2 q3 s) k j v) (recK (rdP els lims q0 q1 q2 q3 s) k j v)):=by
 have cr:=fun W h=>implReadProtocol_any W A B n m c d els lims q0 q1 q2 q3 (hc.below h) s hs (hM.below h) (hTab.below h) (hSg.below h)
 have ck:=fun W=>isMark_any v W
 have hgood:=fun v=>@rd_good els lims q0 q1 q2 q3 s v
 generalize rdP els lims q0 q1 q2 q3 s = o at *;unfold RetRd at cr
 cases o with
 | none =>
  simp only [Option.isSome_none,Option.getD_none] at cr;clear hM hTab hSg hc hgood;go_enter Tryz.func26,Tryz.ntmps26;go_wp2_with ((go_at_call 9;((with_reducible refine (cr _ bqq).mono ?_);rintro e w' ⟨I,n2,c2,GA,gn,gc,KA,kn,kc,x2,R,rfl,rfl,hF,hP⟩)))
  go_ret2;exact RetSK.mk_ rfl rfl bqq
 | some p =>
  obtain ⟨its,⟨gg,kk⟩,⟨s1,s2,s3⟩,sk,fa⟩:=p;simp only [Option.isSome_some,Option.getD_some] at cr;have hB:=hgood _ rfl;simp only at hB;clear hgood;obtain ⟨hit,hPG,hfa,hsk⟩:=pro_of hB;have hlen:=hPG.len;have HV : Hid (recV els q0 q1 q2 q3 (some (its,(gg,kk),(s1,s2,s3),sk,fa)) k j v = if recOk its k j v then textV els q0 q1 q2 q3 (setIts its k.toNat j.toNat v) gg kk s1 s2 s3 sk fa else ⟨#[]⟩):=rfl;have HK : Hid (recK (some (its,(gg,kk),(s1,s2,s3),sk,fa)) k j v = recOk its k j v):=rfl;have hir : ∀ (W : World) (I : OA) (n2 c2 b hi : Nat) (R : Fam) (hF : Fo b hi W R) (hI : ItF R I n2 c2 its),ItsR W I n2 c2 its:=fun W I n2 c2 b hi R hF hI=>⟨hI.rd hF,by have:=hI.1;omega,hI.cap hF,fun x hx=>item_small (hit x hx)⟩
  have ch:=fun W (I : OA) (n2 c2 : Nat) (h : ItsR W I n2 c2 its)=>hasNameAt_any W I n2 c2 its h k j
  cases hh : hasN its k j
  ·
   have HR : Hid (recOk its k j v = false):=by unfold Hid;rw [recOk_has,hh];rfl
   simp only [hh] at ch;clear hM hTab hSg hc hB hh hPG;go_enter Tryz.func26,Tryz.ntmps26;go_wp2_with (first | (go_at_call 9;((with_reducible refine (cr _ bqq).mono ?_);rintro e w' ⟨I,n2,c2,GA,gn,gc,KA,kn,kc,x2,R,rfl,rfl,hF,hP⟩;have hIt:=hP.1)) | (go_at_call 57;(with_reducible refine ep (ch _ I n2 c2 ((hir _ I n2 c2 _ _ R hF hIt).below bqq)) ?_)))
   go_ret2;exact RetSK.mk_ (by rw [HV.out,HR.out];rfl) (by rw [HK.out,HR.out]) bqq
  ·
   simp only [hh] at ch
   cases hv : inB v 0 3
   ·
    have HR : Hid (recOk its k j v = false):=by unfold Hid;rw [recOk_has,hh,hv];rfl
    rw [hv] at ck;clear hM hTab hSg hc hB hh hPG hv;go_enter Tryz.func26,Tryz.ntmps26;go_wp2_with (first | (go_at_call 9;((with_reducible refine (cr _ bqq).mono ?_);rintro e w' ⟨I,n2,c2,GA,gn,gc,KA,kn,kc,x2,R,rfl,rfl,hF,hP⟩;have hIt:=hP.1)) | (go_at_call 57;(with_reducible refine ep (ch _ I n2 c2 ((hir _ I n2 c2 _ _ R hF hIt).below bqq)) ?_)) | (go_at_call 58;(with_reducible refine ep (ck _) ?_)))
    go_ret2;exact RetSK.mk_ (by rw [HV.out,HR.out];rfl) (by rw [HK.out,HR.out]) bqq
   ·
    have hR : recOk its k j v = true:=by rw [recOk_has,hh,hv];rfl
    obtain ⟨k',j',rfl,rfl,hk,hj,hv3⟩:=recOk_of hR;have HR:=Lib.hid hR;rw [hv] at ck;have him:=item_of (hit _ (getD_mem zIt its k' hk));have hjm : j' < (its[k']?.getD zIt).2.1.length:=by rw [him.2.1];exact hj
    have hPG2 : PerfG els q0 q1 q2 q3 (setIts its k' j' v) gg kk s1 s2 s3:=perf_of (perfB_set (pro_perf hB) hk hv3);have hmk:=hPG.mks;have hmo:=marksB_of hmk;have hsl:=setIts_len its k' j' v;rw [Int.toNat_natCast,Int.toNat_natCast] at HV;have cw:=fun W (I : OA) (n2 c2 : Nat) (h : ItsR W I n2 c2 its)=>withCall_any W I n2 c2 its h k' j' v hk hjm
    unfold RetIts at cw;generalize setIts its k' j' v = its2 at *;have ct:=fun W (h1 : Below w.heap.size w W) (GA : OA) (gn gc : Nat) (KA : OA) (kn kc : Nat) (W0 : World) (R : Fam) (b hi : Nat) (hb : Below W0.heap.size W0 W) (hF : Fo b hi W0 R) (hG : TbF 1 5 R GA gn gc gg) (hK : TbF 2 6 R KA kn kc kk) (I : OA) (n2 c2 : Nat) (R2 : Fam) (b2 hi2 : Nat) (hF2 : Fo b2 hi2 W R2) (hI2 : ItF R2 I n2 c2 its2)=>protocolText_any W A B n m c d els q0 q1 q2 q3 I n2 c2 its2 GA KA gn gc kn kc gg kk s1 s2 s3 ⟨⟨(hc.below h1).1,hc.2.2.1⟩,⟨hI2.rd hF2,hI2.cap hF2⟩,(hG.rd hF).below hb⟩ ((RdMk.of_len (hG.rd hF) (hK.rd hF) (by have:=hG.1;omega) (by have:=hK.1;omega) (marks_rows9 hmk)).below hb) hPG2 (hTab.below h1) (hSg.below h1) sk fa hsk hfa
    clear hM hB hh hv hR him hjm hk hj hPG hPG2;have hsz0 : ∀ x,w.heap.size < (ext (w.alloc (.cells #[.slice A n c,.slice B m d,.int .i64 q0,.int .i64 q1,.int .i64 q2,.int .i64 q3] 27)) x).heap.size:=fun x=>Nat.lt_of_lt_of_le Sg (ext_le (w.alloc (.cells #[.slice A n c,.slice B m d,.int .i64 q0,.int .i64 q1,.int .i64 q2,.int .i64 q3] 27)) x)
    have hne1 : ∀ x,¬ (w.heap.size = (ext (w.alloc (.cells #[.slice A n c,.slice B m d,.int .i64 q0,.int .i64 q1,.int .i64 q2,.int .i64 q3] 27)) x).heap.size):=fun x=>by have:=hsz0 x;omega
    have hne2 : ∀ x,¬ ((ext (w.alloc (.cells #[.slice A n c,.slice B m d,.int .i64 q0,.int .i64 q1,.int .i64 q2,.int .i64 q3] 27)) x).heap.size = w.heap.size):=fun x=>by have:=hsz0 x;omega
    go_enter Tryz.func26,Tryz.ntmps26;go_wp2_with (first | (go_at_call 9;((with_reducible refine (cr _ bqq).mono ?_);rintro e w' ⟨I,n2,c2,GA,gn,gc,KA,kn,kc,x2,R,rfl,rfl,hF,hP⟩;(have hIt:=hP.1);(have hGt:=hP.2.1);(have hKt:=hP.2.2);have hs2:=hsz0 x2)) | (go_at_call 57;(with_reducible refine ep (ch _ I n2 c2 ((hir _ I n2 c2 _ _ R hF hIt).below bqq)) ?_)) | (go_at_call 58;(with_reducible refine ep (ck _) ?_)) | (go_at_call 59;((with_reducible refine (cw _ I n2 c2 ((hir _ I n2 c2 _ _ R hF hIt).below bqq)).mono ?_);rintro e w' ⟨I3,n3,c3,x3,R3,rfl,rfl,hF3,hI3⟩;have hF4:=hF3.setLow (g:=(ext (w.alloc (.cells #[.slice A n c,.slice B m d,.int .i64 q0,.int .i64 q1,.int .i64 q2,.int .i64 q3] 27)) x2).heap.size) (k:=0) (v:=.slice I3 n3 c3) (show (ext (w.alloc (.cells #[.slice A n c,.slice B m d,.int .i64 q0,.int .i64 q1,.int .i64 q2,.int .i64 q3] 27)) x2).heap.size < ((ext (w.alloc (.cells #[.slice A n c,.slice B m d,.int .i64 q0,.int .i64 q1,.int .i64 q2,.int .i64 q3] 27)) x2).alloc (.cells #[.slice I n2 c2,.slice GA gn gc,.slice KA kn kc,.int .i64 s1,.int .i64 s2,.int .i64 s3] 35)).heap.size from by simp [go_sem]))) | (go_at_call 40;((with_reducible refine (ct _ bqq GA gn gc KA kn kc _ R _ _ bqq hF hGt hKt I3 n3 c3 R3 _ _ hF4 hI3).mono ?_);rintro e w' ⟨rfl,x4,rfl⟩)))
    go_ret2;exact RetSK.mk_ (by rw [HV.out,HR.out];rfl) (by rw [HK.out,HR.out]) bqq
theorem specRecallProtocol_any (w : World) (A B : OA) (n m c d : Nat) (els : List El) (lims : List Int) (q0 q1 q2 q3 : Int) (hc : CodeR w A n B m els lims) (s : ByteArray) (k j v : Int) (hs : s.size <= 1048576) :
  Calls Tryz.prog 27 #[.agg #[.slice A n c,.slice B m d,.int .i64 q0,.int .i64 q1,.int .i64 q2,.int .i64 q3],.string s,.int .i64 k,.int .i64 j,.int .i64 v] w (RetSK w (recV els q0 q1 q2 q3 (rdP els lims q0 q1 q2 q3 s) k j v) (recK (rdP els lims q0 q1 q2 q3 s) k j v)):=by
 have cr:=fun W h=>specReadProtocol_any W A B n m c d els lims q0 q1 q2 q3 (hc.below h) s hs
 have hgood:=fun v=>@rd_good els lims q0 q1 q2 q3 s v
 generalize rdP els lims q0 q1 q2 q3 s = o at *;unfold RetRd at cr
 cases o with
 | none =>
  simp only [Option.isSome_none,Option.getD_none] at cr;clear hc hgood;go_enter Tryz.func27,Tryz.ntmps27;go_wp2_with ((go_at_call 16;((with_reducible refine (cr _ bqq).mono ?_);rintro e w' ⟨I,n2,c2,GA,gn,gc,KA,kn,kc,x2,R,rfl,rfl,hF,hP⟩)))
  go_ret2;exact RetSK.mk_ rfl rfl bqq
 | some p =>
  obtain ⟨its,⟨gg,kk⟩,⟨s1,s2,s3⟩,sk,fa⟩:=p;simp only [Option.isSome_some,Option.getD_some] at cr;have hB:=hgood _ rfl;simp only at hB;clear hgood;obtain ⟨hit,hPG,hfa,hsk⟩:=pro_of hB;have hlen:=hPG.len;have HV : Hid (recV els q0 q1 q2 q3 (some (its,(gg,kk),(s1,s2,s3),sk,fa)) k j v = if recOk its k j v then textV els q0 q1 q2 q3 (setIts its k.toNat j.toNat v) gg kk s1 s2 s3 sk fa else ⟨#[]⟩):=rfl;have HK : Hid (recK (some (its,(gg,kk),(s1,s2,s3),sk,fa)) k j v = recOk its k j v):=rfl;have HR : Hid (recOk its k j v = (inB k 0 ((its.length : Int) - 1) && (inB j 0 (((its[k.toNat]?.getD zIt).1.length : Int) - 1) && inB v 0 3))):=rfl;have e1 : IntKind.i64.wrap ((its.length : Int) - 1) = (its.length : Int) - 1:=IntWalk.i64_in _ Om;have cw:=fun W=>l1In_any k 0 ((its.length : Int) - 1) W
  cases h1 : inB k 0 ((its.length : Int) - 1)
  ·
   rw [h1] at cw HR;have HR2 : Hid (recOk its k j v = false):=by unfold Hid;rw [HR.out];rfl
   clear hc hB h1 hPG HR hlen;obtain ⟨nl,hnl⟩ : ∃ nl,its.length = nl:=⟨_,rfl⟩;have HN:=Lib.hid hnl;rw [hnl] at e1 cw;clear hnl;go_enter Tryz.func27,Tryz.ntmps27;go_wp2_with (first | (go_at_call 16;((with_reducible refine (cr _ bqq).mono ?_);rintro e w' ⟨I,n2,c2,GA,gn,gc,KA,kn,kc,x2,R,rfl,rfl,hF,hP⟩;(obtain rfl : n2 = nl:=hP.1.1.symm.trans HN.out))) | (go_at_call 60;(with_reducible refine ep (cw _) ?_)))
   go_ret2;exact RetSK.mk_ (by rw [HV.out,HR2.out];rfl) (by rw [HK.out,HR2.out]) bqq
  ·
   rw [h1] at cw HR;have h1i:=inB_iff.1 h1;obtain ⟨i,rfl⟩ : ∃ i : Nat,k = i:=⟨k.toNat,Om⟩;have hil : i < its.length:=Om;have hit2:=item_of (hit _ (getD_mem zIt its i hil));obtain ⟨nl,hnl⟩ : ∃ nl,its.length = nl:=⟨_,rfl⟩;have HN:=Lib.hid hnl;have hin : i < nl:=Om;have hinI : (i : Int) < nl:=Om;have hi0 : (0 : Int) <= i:=Om;obtain ⟨n3,hn3⟩ : ∃ n3,(its[i]?.getD zIt).1.length = n3:=⟨_,rfl⟩;have HN3:=Lib.hid hn3;rw [Int.toNat_natCast,hn3] at HR;rw [hnl] at e1 cw;have h13 : n3 <= 3:=Om;have e2 : IntKind.i64.wrap ((n3 : Int) - 1) = (n3 : Int) - 1:=IntWalk.i64_in _ Om;have cw2:=fun W=>l1In_any j 0 ((n3 : Int) - 1) W
   have cw3:=fun W=>l1In_any v 0 3 W
   have HM:=Lib.hid hit2.2.1;clear hnl hn3 h1i
   cases h2 : inB j 0 ((n3 : Int) - 1)
   ·
    rw [h2] at cw2 HR;have HR2 : Hid (recOk its i j v = false):=by unfold Hid;rw [HR.out];rfl
    clear hc hB h1 h2 hPG HR hlen cw3 HM hit2;go_enter Tryz.func27,Tryz.ntmps27;go_wp2_with (first | (go_at_call 16;((with_reducible refine (cr _ bqq).mono ?_);rintro e w' ⟨I,n2,c2,GA,gn,gc,KA,kn,kc,x2,R,rfl,rfl,hF,hP⟩;(obtain rfl : n2 = nl:=hP.1.1.symm.trans HN.out);(have hIt:=hP.1);(obtain ⟨g,NA,nn,nc,MA,mn,mc,rfl,hgb,hgl,c0,c1,c3,u3,u4,hset⟩:=hIt.mk_at hF Om);(obtain rfl : nn = n3:=(hF.ownT u3).len.symm.trans HN3.out))) | (go_at_call 60;(with_reducible refine ep (cw _) ?_)) | (go_at_call 60;(with_reducible refine ep (cw2 _) ?_)))
    go_ret2;exact RetSK.mk_ (by rw [HV.out,HR2.out];rfl) (by rw [HK.out,HR2.out]) bqq
   ·
    rw [h2] at cw2 HR
    cases h3 : inB v 0 3
    ·
     rw [h3] at cw3 HR;have HR2 : Hid (recOk its i j v = false):=by unfold Hid;rw [HR.out];rfl
     clear hc hB h1 h2 h3 hPG HR hlen HM hit2;go_enter Tryz.func27,Tryz.ntmps27;go_wp2_with (first | (go_at_call 16;((with_reducible refine (cr _ bqq).mono ?_);rintro e w' ⟨I,n2,c2,GA,gn,gc,KA,kn,kc,x2,R,rfl,rfl,hF,hP⟩;(obtain rfl : n2 = nl:=hP.1.1.symm.trans HN.out);(have hIt:=hP.1);(obtain ⟨g,NA,nn,nc,MA,mn,mc,rfl,hgb,hgl,c0,c1,c3,u3,u4,hset⟩:=hIt.mk_at hF Om);(obtain rfl : nn = n3:=(hF.ownT u3).len.symm.trans HN3.out))) | (go_at_call 60;(with_reducible refine ep (cw _) ?_)) | (go_at_call 60;(with_reducible refine ep (cw2 _) ?_)) | (go_at_call 60;(with_reducible refine ep (cw3 _) ?_)))
     go_ret2;exact RetSK.mk_ (by rw [HV.out,HR2.out];rfl) (by rw [HK.out,HR2.out]) bqq
    ·
     rw [h3] at cw3 HR;have HR2 : Hid (recOk its i j v = true):=by unfold Hid;rw [HR.out];rfl
     have h2i:=inB_iff.1 h2;obtain ⟨jj,rfl⟩ : ∃ jj : Nat,j = jj:=⟨j.toNat,Om⟩;have hj3 : jj < n3:=Om;have hj3I : (jj : Int) < n3:=Om;have hj0 : (0 : Int) <= jj:=Om;have hjl : jj < (its[i]?.getD zIt).2.1.length:=by have h4:=HM.out;have h5:=HN3.out;omega
     have hcj : Hid (((its[i]?.getD zIt).2.1.map (Value.int .i64))[jj]? = some (.int .i64 ((its[i]?.getD zIt).2.1[jj]?.getD 0))):=by unfold Hid;rw [List.getElem?_map,List.getElem?_eq_getElem hjl];rfl
     have hPG2 : PerfG els q0 q1 q2 q3 (setIts its i jj v) gg kk s1 s2 s3:=perf_of (perfB_set (pro_perf hB) hil (inB_iff.1 h3));have hmk:=hPG.mks;have hmo:=marksB_of hmk;have hsl:=setIts_len its i jj v;rw [Int.toNat_natCast,Int.toNat_natCast] at HV;obtain ⟨its2,hs2⟩ : ∃ its2,setIts its i jj v = its2:=⟨_,rfl⟩;have HS2:=Lib.hid hs2;rw [hs2] at hPG2 HV hsl;have hsR : (w.alloc (.cells #[.slice A n c,.slice B m d,.int .i64 q0,.int .i64 q1,.int .i64 q2,.int .i64 q3] 27)).heap.size = w.heap.size + 1:=by simp [go_sem]
     have ct:=fun W (h1 : Below w.heap.size w W) (I : OA) (n2 c2 : Nat) (GA : OA) (gn gc : Nat) (KA : OA) (kn kc : Nat) (R2 : Fam) (b hi : Nat) (hF2 : Fo b hi W R2) (hI2 : ItF R2 I n2 c2 its2) (hG : TbF 1 5 R2 GA gn gc gg) (hK : TbF 2 6 R2 KA kn kc kk)=>ptText_any W A B n m c d els q0 q1 q2 q3 I n2 c2 its2 GA KA gn gc kn kc gg kk s1 s2 s3 ⟨⟨(hc.below h1).1,hc.2.2.1⟩,⟨hI2.rd hF2,hI2.cap hF2⟩,hG.rd hF2⟩ (RdMk.of_len (hG.rd hF2) (hK.rd hF2) (by have:=hG.1;omega) (by have:=hK.1;omega) (marks_rows9 hmk)) hPG2 sk fa hsk hfa
     clear hB h1 h2 h3 hPG hPG2 HR hlen hit2 hs2 h2i;go_enter Tryz.func27,Tryz.ntmps27;go_wp2_with (first | (go_at_call 16;((with_reducible refine (cr _ bqq).mono ?_);rintro e w' ⟨I,n2,c2,GA,gn,gc,KA,kn,kc,x2,R,rfl,rfl,hF,hP⟩;(obtain rfl : n2 = nl:=hP.1.1.symm.trans HN.out);(have hIt:=hP.1);(obtain ⟨g,NA,nn,nc,MA,mn,mc,rfl,hgb,hgl,c0,c1,c3,u3,u4,hset⟩:=hIt.mk_at hF Om);(obtain rfl : nn = n3:=(hF.ownT u3).len.symm.trans HN3.out);(have ho4:=hF.at_ u4);(have hml : mn = (its[i]?.getD zIt).2.1.length:=by have:=ho4.len;simpa using this.symm);(have hm3 : mn = nn:=hml.trans (HM.out.trans HN3.out));(obtain ⟨gm,rfl,hmb,hmlt⟩:=Ow.form_ ho4 Om);(obtain ⟨hc4,hf4⟩:=hF.cell u4 jj (.int .i64 ((its[i]?.getD zIt).2.1[jj]?.getD 0)) hcj.out);(have hgw : w.heap.size < gm:=Om);(have hnw : ¬ w.heap.size = gm:=Om);(have hnw2 : ¬ gm = w.heap.size:=Om);(have hnp : ¬ (ext (w.alloc (.cells #[.slice A n c,.slice B m d,.int .i64 q0,.int .i64 q1,.int .i64 q2,.int .i64 q3] 27)) x2).heap.size = gm:=Om);(have hnp2 : ¬ gm = (ext (w.alloc (.cells #[.slice A n c,.slice B m d,.int .i64 q0,.int .i64 q1,.int .i64 q2,.int .i64 q3] 27)) x2).heap.size:=Om);(have hjm : jj < mn:=Om);(have hjmI : (jj : Int) < mn:=Om);(clear hml hm3);(have hGt:=hP.2.1.of (R':=upd R (4,i) (rowI (some ⟨gm,0,none⟩) mn mc ((its[i]?.getD zIt).2.1.set jj v))) (upd_ne _ _ (by simp)) (fun j=>upd_ne _ _ (by simp)));(have hKt:=hP.2.2.of (R':=upd R (4,i) (rowI (some ⟨gm,0,none⟩) mn mc ((its[i]?.getD zIt).2.1.set jj v))) (upd_ne _ _ (by simp)) (fun j=>upd_ne _ _ (by simp)));(have hIs:=hset jj v);(rw [HS2.out] at hIs);(have G1:=hF.store u4 jj (.int .i64 v));(have eR : upd R (4,i) ⟨3,1,some ⟨gm,0,none⟩,mn,mc,((its[i]?.getD zIt).2.1.map (Value.int .i64)).set jj (.int .i64 v)⟩ = upd R (4,i) (rowI (some ⟨gm,0,none⟩) mn mc ((its[i]?.getD zIt).2.1.set jj v)):=by unfold rowI;rw [List.map_set]);(rw [eR] at G1);(have G2:=G1.below (bAlloc (Below.refl _ _) (.cells #[.slice (some ⟨g,0,none⟩) n2 c2,.slice GA gn gc,.slice KA kn kc,.int .i64 s1,.int .i64 s2,.int .i64 s3] 35))))) | (go_at_call 60;(with_reducible refine ep (cw _) ?_)) | (go_at_call 60;(with_reducible refine ep (cw2 _) ?_)) | (go_at_call 60;(with_reducible refine ep (cw3 _) ?_)) | (go_at_call 43;((with_reducible refine (ct _ bqq _ n2 c2 GA gn gc KA kn kc _ _ _ G2 hIs hGt hKt).mono ?_);rintro e w' ⟨rfl,x4,rfl⟩)))
     go_ret2;exact RetSK.mk_ (by rw [HV.out,HR2.out];rfl) (by rw [HK.out,HR2.out]) bqq
end Go.Proofs.YtlfhhkgleapamaaGreatDoor
