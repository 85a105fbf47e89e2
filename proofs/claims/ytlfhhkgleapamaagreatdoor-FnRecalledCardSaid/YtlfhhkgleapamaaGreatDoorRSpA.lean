/- Contracts: items read from text, in the reference. Conditions: strings below 2^21 bytes. -/
import Derived.Test.YtlfhhkgleapamaaGreatDoorRParA
import Derived.Test.YtlfhhkgleapamaaGreatDoorRReads
import Derived.Test.YtlfhhkgleapamaaGreatDoorRDoors
import Derived.LoopN
import Derived.Deep.DeepCutAuto
import Derived.Deep.CutBlock
set_option linter.unusedVariables false
set_option linter.unusedSimpArgs false
set_option maxRecDepth 100000
set_option maxHeartbeats 16000000
namespace Go.Proofs.YtlfhhkgleapamaaGreatDoor
open Go.RowKit
def itPo (s : Str) : Option It:=if itemB (itOf s) && ((itemS (itOf s)).data.toList == s) then some (itOf s) else none
theorem itP_po (s : Str) : itP s = (itPo s).getD zIt:=by unfold itP itPo;split <;> rfl
theorem cutX_yes {s : ByteArray} (h : [32,120].isSuffixOf s.data.toList = true) : 2 <= s.size /\ (s.extract (s.size - 2) s.size).toList = [32,120] /\ cutX s.data.toList = ((s.extract 0 (s.size - 2)).data.toList,true):=by
 have h2:=List.isSuffixOf_iff_suffix.1 h;have hl : 2 <= s.data.toList.length:=h2.length_le;rw [<- Lib.size_eq] at hl;refine ⟨hl,?_,?_⟩
 ·
  rw [Lib.toList_data,Lib.extract_data,List.take_of_length_le (by rw [List.length_drop,<- Lib.size_eq];exact Nat.le_refl _),Lib.size_eq];exact (List.suffix_iff_eq_drop.1 h2).symm
 ·
  unfold cutX;rw [if_pos h,Lib.extract_data,List.drop_zero,Lib.size_eq];rfl
theorem cutX_no {s : ByteArray} (h : ¬ [32,120].isSuffixOf s.data.toList = true) : (2 <= s.size -> ¬ (s.extract (s.size - 2) s.size).toList = [32,120]) /\ cutX s.data.toList = (s.data.toList,false):=by
 refine ⟨fun hl e=>h ?_,by unfold cutX;rw [if_neg h]⟩;rw [Lib.toList_data,Lib.extract_data,List.take_of_length_le (by rw [List.length_drop,<- Lib.size_eq];exact Nat.le_refl _)] at e;rw [List.isSuffixOf_iff_suffix,<- e];exact List.drop_suffix _ _
theorem lastW {s : ByteArray} (h : s.size ≠ 0) : (s.extract (s.size - 1) s.size).toList = [s[s.size - 1]'Om] /\ s.data.toList.getLast? = some (s[s.size - 1]'Om) /\ s.extract 0 (s.size - 1) = bs s.data.toList.dropLast:=by
 refine ⟨?_,last_at h,?_⟩
 ·
  rw [Lib.toList_data,Lib.extract_data,List.take_of_length_le (by rw [List.length_drop,<- Lib.size_eq];exact Nat.le_refl _),List.drop_eq_getElem_cons (by rw [<- Lib.size_eq];omega),List.drop_of_length_le (by rw [<- Lib.size_eq];omega)]
  rfl
 ·
  rw [<- bs_of (s.extract 0 (s.size - 1)),Lib.extract_data,List.drop_zero,List.dropLast_eq_take,<- Lib.size_eq];rfl
theorem itParse_any (s : ByteArray) (w : World) (hs : s.size <= 2000000) :
  Calls Tryz.prog 103 #[.string s] w (RetItK w (itPo s.data.toList)):=by
 have HI:=Lib.hid (itOf_def s.data.toList);have HN : Hid (nmsOf s.data.toList = ((spl 43 (cutX s.data.toList).1).map bs).map fun w=>bs (sepW w.data.toList).1):=rfl;have HK : Hid (mksOf s.data.toList = ((spl 43 (cutX s.data.toList).1).map bs).map fun w=>(sepW w.data.toList).2):=rfl;obtain ⟨tb,htb⟩ : ∃ tb : ByteArray,tb.data.toList = (cutX s.data.toList).1:=⟨bs (cutX s.data.toList).1,bs_data _⟩;have htz : tb.size <= 2000000:=by
  rw [Lib.size_eq,htb];have h2 : (cutX s.data.toList).1.length <= s.data.toList.length:=by unfold cutX;split <;> simp
  rw [<- Lib.size_eq] at h2;omega
 obtain ⟨late,hlate⟩ : ∃ late,(cutX s.data.toList).2 = late:=⟨_,rfl⟩;have HCX : Hid (([32,120].isSuffixOf s.data.toList = true /\ 2 <= s.size /\ (s.extract (s.size - 2) s.size).toList = [32,120] /\ s.extract 0 (s.size - 2) = tb /\ late = true) ∨ ((2 <= s.size -> ¬ (s.extract (s.size - 2) s.size).toList = [32,120]) /\ s = tb /\ late = false)):=by
  unfold Hid;by_cases h : [32,120].isSuffixOf s.data.toList = true
  ·
   obtain ⟨h1,h2,h3⟩:=cutX_yes h;refine .inl ⟨h,h1,h2,?_,by rw [<- hlate,h3]⟩;rw [h3] at htb;simp only at htb;rw [<- bs_of (s.extract 0 (s.size - 2)),<- htb,bs_of]
  ·
   obtain ⟨h1,h3⟩:=cutX_no h;refine .inr ⟨h1,?_,by rw [<- hlate,h3]⟩;rw [h3] at htb;simp only at htb;rw [<- bs_of s,<- htb,bs_of]
 have csp:=fun W=>l1Split_any tb 43 43 rfl W htz
 have hsp : spls 43 tb = (spl 43 (cutX s.data.toList).1).map bs:=by unfold spls;rw [htb]
 rw [hsp] at csp;have hwn : ((spl 43 (cutX s.data.toList).1).map bs).length <= 2000001:=by rw [<- hsp];have:=spls_bd 43 tb;omega
 have hws : ∀ x ∈ (spl 43 (cutX s.data.toList).1).map bs,x.size <= 2000000:=fun x hx=>by rw [<- hsp] at hx;exact Nat.le_trans (spls_mem hx) htz
 rw [hlate] at HI;clear hlate htb hsp;generalize (spl 43 (cutX s.data.toList).1).map bs = ws at *;have e2 : 2 <= s.size -> IntKind.i64.wrap ((s.size : Int) - 2) = ((s.size - 2 : Nat) : Int):=fun h=>by rw [IntWalk.i64_in _ Om];omega

 go_enter Tryz.func103,Tryz.ntmps103;go_upto_region 3 with fail
 go_cut [23] (fun v wx=>v = .bool late /\ wx = ((w.alloc (.cells #[.slice none 0 0,.slice none 0 0,.bool false] 61)).alloc (.cells #[.slice none 0 0,.slice none 0 0,.bool false] 61)))
 case first =>
  rcases HCX.out with ⟨_,h1,h2,h3,h4⟩ | ⟨h1,h2,h3⟩
  ·
   have h1I : (2 : Int) <= s.size:=Om;have e3:=e2 h1;have h2B : ((s.extract (s.size - 2) s.size).toList == [32,120]) = true:=by rw [h2];rfl
   have H4:=Lib.hid h4;clear h4 h3;go_wp2;go_meet;exact ⟨by rw [H4.out],rfl⟩
  ·
   have H3:=Lib.hid h3;clear h3 h2;by_cases h4 : 2 <= s.size
   ·
    have h1I : (2 : Int) <= s.size:=Om;have e3:=e2 h4;have h5:=beq_eq_false_iff_ne.2 (h1 h4);go_wp2;go_meet;exact ⟨by rw [H3.out],rfl⟩
   ·
    have h1I : ¬ (2 : Int) <= s.size:=Om;go_wp2;go_meet;exact ⟨by rw [H3.out],rfl⟩
 case rest =>
  obtain ⟨rfl,rfl⟩:=hcut;go_upto_if 23 with fail
  go_cut [5] (fun v wx=>v = .string tb /\ wx = ((w.alloc (.cells #[.slice none 0 0,.slice none 0 0,.bool false] 61)).alloc (.cells #[.slice none 0 0,.slice none 0 0,.bool late] 61)))
  case first =>
   rcases HCX.out with ⟨_,h1,h2,h3,h4⟩ | ⟨h1,h2,h3⟩
   ·
    have e3:=e2 h1;have H3:=Lib.hid h3;subst h4;clear h3 h2;go_wp2;go_meet;exact ⟨by rw [<- H3.out],rfl⟩
   ·
    subst h3;have H2:=Lib.hid h2;clear h2 h1;go_wp2;go_meet;exact ⟨by rw [<- H2.out],rfl⟩
  case rest =>
   obtain ⟨rfl,rfl⟩:=hcut;clear HCX e2;go_wp2_with ((go_at_call 55;((with_reducible refine (csp _).mono ?_);rintro e w' ⟨A1,n1,c1,x1,rfl,rfl,o1⟩)))
   have sz : ∀ (W : World) (o : Obj),(W.alloc o).heap.size = W.heap.size + 1:=fun W o=>by simp [go_sem]
   have F1:=(Fo.nil_ (b:=w.heap.size) (hi:=w.heap.size) (w:=w)).lit (j:=(9,1)) rfl (Nat.le_refl _) (Nat.le_refl _) 61 3 1 #[.slice none 0 0,.slice none 0 0,.bool false] rfl (by simp [maxLen]) [.slice none 0 0,.slice none 0 0,.bool false] rfl;have F4:=F1.lit (j:=(9,0)) (by simp [upd,famN]) (by simp only [sz];omega) (by simp only [sz];omega) 61 3 1 #[.slice none 0 0,.slice none 0 0,.bool late] rfl (by simp [maxLen]) _ rfl;have F4:=(F4.putF (j:=(3,0)) (r:=rowT none 0 0 []) (World.grownBy.refl _ _) Ow.nil_ (fun _ _=>.inl rfl) (Nat.le_refl _) (fun z hz=>by cases hz)).putF (j:=(4,0)) (r:=rowI none 0 0 []) (World.grownBy.refl _ _) Ow.nil_ (fun _ _=>.inl rfl) (Nat.le_refl _) (fun z hz=>by cases hz);have F5:=F4.addT (j:=(9,2)) (by simp [upd,famN]) (ext_below _ x1) (by simp only [sz];omega) (by simp only [sz];omega) (by simp only [sz];omega) o1;clear F1 F4 o1;simp only [sz] at F5
   go_loopw [7,8,9,10,33,37,38,39] (fun _ _ _ _ i _ _ _ wr=>∃ (k : Nat) (R : Fam) (NA MA : OA) (nc mc : Nat) (y : World),k <= n1 /\ i = .int .i64 k /\ wr = ext w y /\ Fo w.heap.size wr.heap.size wr R /\ R (9,0) = ⟨61,3,some ⟨w.heap.size + 1,0,none⟩,1,1,[.slice NA k nc,.slice MA k mc,.bool late]⟩ /\ R (9,1) = ⟨61,3,some ⟨w.heap.size,0,none⟩,1,1,[.slice none 0 0,.slice none 0 0,.bool false]⟩ /\ R (9,2) = rowT A1 n1 c1 ws /\ R (3,0) = rowT NA k nc ((ws.take k).map fun w=>bs (sepW w.data.toList).1) /\ R (4,0) = rowI MA k mc ((ws.take k).map fun w=>(sepW w.data.toList).2)) (fun _ _ _ _ i _ _ _ _=>n1 - (intOf i).toNat)
   case atStart =>
    obtain ⟨y,hy⟩:=ext_ex (show Below w.heap.size w (ext ((w.alloc (.cells #[.slice none 0 0,.slice none 0 0,.bool false] 61)).alloc (.cells #[.slice none 0 0,.slice none 0 0,.bool late] 61)) x1) from bL);exact ⟨0,_,none,none,0,0,y,Om,rfl,hy,F5,by simp [upd],by simp [upd],by simp [upd],by simp [upd,rowT],by simp [upd,rowI]⟩
   case round =>
    obtain ⟨k,R,NA,MA,nc,mc,y,hk,rfl,rfl,hF,e0,e1,e2,e3,e4⟩:=hrel;clear F5;have hwl:=(hF.ownT e2).len;by_cases hlt : k < n1
    ·
     obtain ⟨b1,rfl,hb1,hb2⟩:=(hF.ownT e2).form_ Om;have hck:=(hF.ownT e2).cell_ k hlt;have hsk:=hws _ (getD_mem ByteArray.empty ws k Om);have h3 : ws.take (k + 1) = ws.take k ++ [ws[k]?.getD ByteArray.empty]:=take_succ_getD ByteArray.empty ws k Om;have HT1 : Hid ((ws.take (k + 1)).map (fun w=>bs (sepW w.data.toList).1) = (ws.take k).map (fun w=>bs (sepW w.data.toList).1) ++ [bs (sepW (ws[k]?.getD ByteArray.empty).data.toList).1]):=by unfold Hid;rw [h3,List.map_append];rfl
     have HT2 : Hid ((ws.take (k + 1)).map (fun w=>(sepW w.data.toList).2) = (ws.take k).map (fun w=>(sepW w.data.toList).2) ++ [(sepW (ws[k]?.getD ByteArray.empty).data.toList).2]):=by unfold Hid;rw [h3,List.map_append];rfl
     clear h3;generalize (ws.take k).map (fun w=>bs (sepW w.data.toList).1) = nms at *;generalize (ws.take k).map (fun w=>(sepW w.data.toList).2) = mks at *;generalize ws[k]?.getD ByteArray.empty = word at *;have hkb : k <= 1099511627776:=Om;by_cases hz : word.size = 0
     ·
      have hv : sepW word.data.toList = (word.data.toList,0):=by
       have : word.data.toList = []:=List.eq_nil_of_length_eq_zero (by rw [<- Lib.size_eq];exact hz);rw [this];rfl
      have hzI : ¬ (0 : Int) < word.size:=Om;have hzN : ¬ 0 < word.size:=Om;rw [hv,bs_of] at HT1;rw [hv] at HT2;clear hv hz;go_wp2_with (go_at_call 148;((with_reducible refine (itSigns_any _).mono ?_);rintro e w' ⟨A5,n5,c5,x5,rfl,rfl,o5⟩;(obtain rfl : n5 = 4:=o5.len.symm);(obtain ⟨g5,rfl,hg5,hg52⟩:=o5.form_ Om);(have k0 : _ = some (Value.string ⟨#[]⟩):=o5.cell_ 0 Om);(have k1 : _ = some (Value.string ⟨#[60]⟩):=o5.cell_ 1 Om);(have k2 : _ = some (Value.string ⟨#[101]⟩):=o5.cell_ 2 Om);(have k3 : _ = some (Value.string ⟨#[42]⟩):=o5.cell_ 3 Om);have hF5:=hF.below' (ext_below _ x5) (Nat.le_refl _);(obtain ⟨hb0,hf0⟩:=hF5.cell e0 0 _ rfl);(obtain ⟨hb1',hf1⟩:=hF5.cell e0 1 _ rfl)))
      refine wp_loop_rounds 5 ?_
      iterate 5 (rw [rounds_succ];go_wp2_with (first | ((at_builtin;(refine wpl_push_strJ w _ _ _ ?_ rfl _ _ rfl NA k nc _ rfl (hF5.ownT e3) ?_ ?_ rfl hkb ?_);(focus (first | rfl | (simp;done)));exact bL;exact bL;intro NA' nc' y1 ho1 hg1 hd1);have F1:=hF5.grewT e3 hg1 ho1 hd1 (Nat.le_refl _);have e01:=(upd_ne R (rowT NA' (k + 1) nc' (nms ++ [word])) (i:=(9,0)) (j:=(3,0)) (by decide)).trans e0;(obtain ⟨hb0,hf0⟩:=F1.cell e01 0 _ rfl);(obtain ⟨hb1',hf1⟩:=F1.cell e01 1 _ rfl);have F2:=F1.store e01 0 (.slice NA' (k + 1) nc');have e42:=((upd_ne (upd R (3,0) (rowT NA' (k + 1) nc' (nms ++ [word]))) ⟨61,3,some ⟨w.heap.size + 1,0,none⟩,1,1,[.slice NA' (k + 1) nc',.slice MA k mc,.bool late]⟩ (i:=(4,0)) (j:=(9,0)) (by decide)).trans (upd_ne R (rowT NA' (k + 1) nc' (nms ++ [word])) (i:=(4,0)) (j:=(3,0)) (by decide))).trans e4;have hM2:=F2.ownI e42) | ((at_builtin;(refine wpl_push_int w _ _ _ ?_ rfl _ _ rfl MA k mc _ rfl hM2 ?_ ?_ rfl hkb ?_);(focus (first | rfl | (simp;done)));exact bL;exact bL;intro MA' mc' y2 ho2 hg2 hd2);have F3:=F2.grewI e42 hg2 ho2 hd2 (by simp [World.setCell]);have e03:=(upd_ne (upd (upd R (3,0) (rowT NA' (k + 1) nc' (nms ++ [word]))) (9,0) ⟨61,3,some ⟨w.heap.size + 1,0,none⟩,1,1,[.slice NA' (k + 1) nc',.slice MA k mc,.bool late]⟩) (rowI MA' (k + 1) mc' (mks ++ [0])) (i:=(9,0)) (j:=(4,0)) (by decide)).trans (upd_same _ _ _);(obtain ⟨hb0,hf0⟩:=F3.cell e03 0 _ rfl);(obtain ⟨hb1',hf1⟩:=F3.cell e03 1 _ rfl))))
      have F4:=F3.store e03 1 (.slice MA' (k + 1) mc');have hsz : ((ext w y2).setCell ⟨w.heap.size + 1,1,none⟩ (.slice MA' (k + 1) mc')).heap.size = (ext w y2).heap.size:=by simp [World.setCell]
      obtain ⟨y3,hy3⟩:=ext_ex (show Below w.heap.size w ((ext w y2).setCell ⟨w.heap.size + 1,1,none⟩ (.slice MA' (k + 1) mc')) from bL);rw [<- hsz] at F4;go_roundw
      case rel=>exact ⟨k + 1,_,NA',MA',nc',mc',y3,Om,by go_num,hy3,F4,by simp [upd],by simp [upd,e1],by simp [upd,e2],by rw [HT1.out];simp [upd,bs],by rw [HT2.out];simp [upd]⟩
      case measure=>simp [intOf];omega
     ·
      obtain ⟨hl1,hl2,hl3⟩:=lastW hz;have hzI : (0 : Int) < word.size:=Om;have hzN : 0 < word.size:=Om;have ew : IntKind.i64.wrap ((word.size : Int) - 1) = ((word.size - 1 : Nat) : Int):=by rw [IntWalk.i64_in _ Om];omega
      rcases sepW_cases word.data.toList with ⟨hc,hv⟩ | ⟨hc,hv⟩ | ⟨hc,hv⟩ | ⟨hc,hv⟩
      ·
       have hlT : (word.extract (word.size - 1) word.size).toList = [60]:=by rw [hl1];rw [hc] at hl2;injection hl2 with hl2;rw [<- hl2]
       rw [hv,<- hl3] at HT1;rw [hv] at HT2;clear hv hc hl1 hl2 hl3;go_wp2_with (go_at_call 148;((with_reducible refine (itSigns_any _).mono ?_);rintro e w' ⟨A5,n5,c5,x5,rfl,rfl,o5⟩;(obtain rfl : n5 = 4:=o5.len.symm);(obtain ⟨g5,rfl,hg5,hg52⟩:=o5.form_ Om);(have k0 : _ = some (Value.string ⟨#[]⟩):=o5.cell_ 0 Om);(have k1 : _ = some (Value.string ⟨#[60]⟩):=o5.cell_ 1 Om);(have k2 : _ = some (Value.string ⟨#[101]⟩):=o5.cell_ 2 Om);(have k3 : _ = some (Value.string ⟨#[42]⟩):=o5.cell_ 3 Om);have hF5:=hF.below' (ext_below _ x5) (Nat.le_refl _);(obtain ⟨hb0,hf0⟩:=hF5.cell e0 0 _ rfl);(obtain ⟨hb1',hf1⟩:=hF5.cell e0 1 _ rfl)))
       refine wp_loop_rounds 5 ?_
       iterate 5 (rw [rounds_succ];go_wp2_with (first | ((at_builtin;(refine wpl_push_strJ w _ _ _ ?_ rfl _ _ rfl NA k nc _ rfl (hF5.ownT e3) ?_ ?_ rfl hkb ?_);(focus (first | rfl | (simp;done)));exact bL;exact bL;intro NA' nc' y1 ho1 hg1 hd1);have F1:=hF5.grewT e3 hg1 ho1 hd1 (Nat.le_refl _);have e01:=(upd_ne R (rowT NA' (k + 1) nc' (nms ++ [word.extract 0 (word.size - 1)])) (i:=(9,0)) (j:=(3,0)) (by decide)).trans e0;(obtain ⟨hb0,hf0⟩:=F1.cell e01 0 _ rfl);(obtain ⟨hb1',hf1⟩:=F1.cell e01 1 _ rfl);have F2:=F1.store e01 0 (.slice NA' (k + 1) nc');have e42:=((upd_ne (upd R (3,0) (rowT NA' (k + 1) nc' (nms ++ [word.extract 0 (word.size - 1)]))) ⟨61,3,some ⟨w.heap.size + 1,0,none⟩,1,1,[.slice NA' (k + 1) nc',.slice MA k mc,.bool late]⟩ (i:=(4,0)) (j:=(9,0)) (by decide)).trans (upd_ne R (rowT NA' (k + 1) nc' (nms ++ [word.extract 0 (word.size - 1)])) (i:=(4,0)) (j:=(3,0)) (by decide))).trans e4;have hM2:=F2.ownI e42) | ((at_builtin;(refine wpl_push_int w _ _ _ ?_ rfl _ _ rfl MA k mc _ rfl hM2 ?_ ?_ rfl hkb ?_);(focus (first | rfl | (simp;done)));exact bL;exact bL;intro MA' mc' y2 ho2 hg2 hd2);have F3:=F2.grewI e42 hg2 ho2 hd2 (by simp [World.setCell]);have e03:=(upd_ne (upd (upd R (3,0) (rowT NA' (k + 1) nc' (nms ++ [word.extract 0 (word.size - 1)]))) (9,0) ⟨61,3,some ⟨w.heap.size + 1,0,none⟩,1,1,[.slice NA' (k + 1) nc',.slice MA k mc,.bool late]⟩) (rowI MA' (k + 1) mc' (mks ++ [1])) (i:=(9,0)) (j:=(4,0)) (by decide)).trans (upd_same _ _ _);(obtain ⟨hb0,hf0⟩:=F3.cell e03 0 _ rfl);(obtain ⟨hb1',hf1⟩:=F3.cell e03 1 _ rfl))))
       have F4:=F3.store e03 1 (.slice MA' (k + 1) mc');have hsz : ((ext w y2).setCell ⟨w.heap.size + 1,1,none⟩ (.slice MA' (k + 1) mc')).heap.size = (ext w y2).heap.size:=by simp [World.setCell]
       obtain ⟨y3,hy3⟩:=ext_ex (show Below w.heap.size w ((ext w y2).setCell ⟨w.heap.size + 1,1,none⟩ (.slice MA' (k + 1) mc')) from bL);rw [<- hsz] at F4;go_roundw
       case rel=>exact ⟨k + 1,_,NA',MA',nc',mc',y3,Om,by go_num,hy3,F4,by simp [upd],by simp [upd,e1],by simp [upd,e2],by rw [HT1.out];simp [upd,bs],by rw [HT2.out];simp [upd]⟩
       case measure=>simp [intOf];omega
      ·
       have hlT : (word.extract (word.size - 1) word.size).toList = [101]:=by rw [hl1];rw [hc.2] at hl2;injection hl2 with hl2;rw [<- hl2]
       rw [hv,<- hl3] at HT1;rw [hv] at HT2;clear hv hc hl1 hl2 hl3;go_wp2_with (go_at_call 148;((with_reducible refine (itSigns_any _).mono ?_);rintro e w' ⟨A5,n5,c5,x5,rfl,rfl,o5⟩;(obtain rfl : n5 = 4:=o5.len.symm);(obtain ⟨g5,rfl,hg5,hg52⟩:=o5.form_ Om);(have k0 : _ = some (Value.string ⟨#[]⟩):=o5.cell_ 0 Om);(have k1 : _ = some (Value.string ⟨#[60]⟩):=o5.cell_ 1 Om);(have k2 : _ = some (Value.string ⟨#[101]⟩):=o5.cell_ 2 Om);(have k3 : _ = some (Value.string ⟨#[42]⟩):=o5.cell_ 3 Om);have hF5:=hF.below' (ext_below _ x5) (Nat.le_refl _);(obtain ⟨hb0,hf0⟩:=hF5.cell e0 0 _ rfl);(obtain ⟨hb1',hf1⟩:=hF5.cell e0 1 _ rfl)))
       refine wp_loop_rounds 5 ?_
       iterate 5 (rw [rounds_succ];go_wp2_with (first | ((at_builtin;(refine wpl_push_strJ w _ _ _ ?_ rfl _ _ rfl NA k nc _ rfl (hF5.ownT e3) ?_ ?_ rfl hkb ?_);(focus (first | rfl | (simp;done)));exact bL;exact bL;intro NA' nc' y1 ho1 hg1 hd1);have F1:=hF5.grewT e3 hg1 ho1 hd1 (Nat.le_refl _);have e01:=(upd_ne R (rowT NA' (k + 1) nc' (nms ++ [word.extract 0 (word.size - 1)])) (i:=(9,0)) (j:=(3,0)) (by decide)).trans e0;(obtain ⟨hb0,hf0⟩:=F1.cell e01 0 _ rfl);(obtain ⟨hb1',hf1⟩:=F1.cell e01 1 _ rfl);have F2:=F1.store e01 0 (.slice NA' (k + 1) nc');have e42:=((upd_ne (upd R (3,0) (rowT NA' (k + 1) nc' (nms ++ [word.extract 0 (word.size - 1)]))) ⟨61,3,some ⟨w.heap.size + 1,0,none⟩,1,1,[.slice NA' (k + 1) nc',.slice MA k mc,.bool late]⟩ (i:=(4,0)) (j:=(9,0)) (by decide)).trans (upd_ne R (rowT NA' (k + 1) nc' (nms ++ [word.extract 0 (word.size - 1)])) (i:=(4,0)) (j:=(3,0)) (by decide))).trans e4;have hM2:=F2.ownI e42) | ((at_builtin;(refine wpl_push_int w _ _ _ ?_ rfl _ _ rfl MA k mc _ rfl hM2 ?_ ?_ rfl hkb ?_);(focus (first | rfl | (simp;done)));exact bL;exact bL;intro MA' mc' y2 ho2 hg2 hd2);have F3:=F2.grewI e42 hg2 ho2 hd2 (by simp [World.setCell]);have e03:=(upd_ne (upd (upd R (3,0) (rowT NA' (k + 1) nc' (nms ++ [word.extract 0 (word.size - 1)]))) (9,0) ⟨61,3,some ⟨w.heap.size + 1,0,none⟩,1,1,[.slice NA' (k + 1) nc',.slice MA k mc,.bool late]⟩) (rowI MA' (k + 1) mc' (mks ++ [2])) (i:=(9,0)) (j:=(4,0)) (by decide)).trans (upd_same _ _ _);(obtain ⟨hb0,hf0⟩:=F3.cell e03 0 _ rfl);(obtain ⟨hb1',hf1⟩:=F3.cell e03 1 _ rfl))))
       have F4:=F3.store e03 1 (.slice MA' (k + 1) mc');have hsz : ((ext w y2).setCell ⟨w.heap.size + 1,1,none⟩ (.slice MA' (k + 1) mc')).heap.size = (ext w y2).heap.size:=by simp [World.setCell]
       obtain ⟨y3,hy3⟩:=ext_ex (show Below w.heap.size w ((ext w y2).setCell ⟨w.heap.size + 1,1,none⟩ (.slice MA' (k + 1) mc')) from bL);rw [<- hsz] at F4;go_roundw
       case rel=>exact ⟨k + 1,_,NA',MA',nc',mc',y3,Om,by go_num,hy3,F4,by simp [upd],by simp [upd,e1],by simp [upd,e2],by rw [HT1.out];simp [upd,bs],by rw [HT2.out];simp [upd]⟩
       case measure=>simp [intOf];omega
      ·
       have hlT : (word.extract (word.size - 1) word.size).toList = [42]:=by rw [hl1];rw [hc.2.2] at hl2;injection hl2 with hl2;rw [<- hl2]
       rw [hv,<- hl3] at HT1;rw [hv] at HT2;clear hv hc hl1 hl2 hl3;go_wp2_with (go_at_call 148;((with_reducible refine (itSigns_any _).mono ?_);rintro e w' ⟨A5,n5,c5,x5,rfl,rfl,o5⟩;(obtain rfl : n5 = 4:=o5.len.symm);(obtain ⟨g5,rfl,hg5,hg52⟩:=o5.form_ Om);(have k0 : _ = some (Value.string ⟨#[]⟩):=o5.cell_ 0 Om);(have k1 : _ = some (Value.string ⟨#[60]⟩):=o5.cell_ 1 Om);(have k2 : _ = some (Value.string ⟨#[101]⟩):=o5.cell_ 2 Om);(have k3 : _ = some (Value.string ⟨#[42]⟩):=o5.cell_ 3 Om);have hF5:=hF.below' (ext_below _ x5) (Nat.le_refl _);(obtain ⟨hb0,hf0⟩:=hF5.cell e0 0 _ rfl);(obtain ⟨hb1',hf1⟩:=hF5.cell e0 1 _ rfl)))
       refine wp_loop_rounds 5 ?_
       iterate 5 (rw [rounds_succ];go_wp2_with (first | ((at_builtin;(refine wpl_push_strJ w _ _ _ ?_ rfl _ _ rfl NA k nc _ rfl (hF5.ownT e3) ?_ ?_ rfl hkb ?_);(focus (first | rfl | (simp;done)));exact bL;exact bL;intro NA' nc' y1 ho1 hg1 hd1);have F1:=hF5.grewT e3 hg1 ho1 hd1 (Nat.le_refl _);have e01:=(upd_ne R (rowT NA' (k + 1) nc' (nms ++ [word.extract 0 (word.size - 1)])) (i:=(9,0)) (j:=(3,0)) (by decide)).trans e0;(obtain ⟨hb0,hf0⟩:=F1.cell e01 0 _ rfl);(obtain ⟨hb1',hf1⟩:=F1.cell e01 1 _ rfl);have F2:=F1.store e01 0 (.slice NA' (k + 1) nc');have e42:=((upd_ne (upd R (3,0) (rowT NA' (k + 1) nc' (nms ++ [word.extract 0 (word.size - 1)]))) ⟨61,3,some ⟨w.heap.size + 1,0,none⟩,1,1,[.slice NA' (k + 1) nc',.slice MA k mc,.bool late]⟩ (i:=(4,0)) (j:=(9,0)) (by decide)).trans (upd_ne R (rowT NA' (k + 1) nc' (nms ++ [word.extract 0 (word.size - 1)])) (i:=(4,0)) (j:=(3,0)) (by decide))).trans e4;have hM2:=F2.ownI e42) | ((at_builtin;(refine wpl_push_int w _ _ _ ?_ rfl _ _ rfl MA k mc _ rfl hM2 ?_ ?_ rfl hkb ?_);(focus (first | rfl | (simp;done)));exact bL;exact bL;intro MA' mc' y2 ho2 hg2 hd2);have F3:=F2.grewI e42 hg2 ho2 hd2 (by simp [World.setCell]);have e03:=(upd_ne (upd (upd R (3,0) (rowT NA' (k + 1) nc' (nms ++ [word.extract 0 (word.size - 1)]))) (9,0) ⟨61,3,some ⟨w.heap.size + 1,0,none⟩,1,1,[.slice NA' (k + 1) nc',.slice MA k mc,.bool late]⟩) (rowI MA' (k + 1) mc' (mks ++ [3])) (i:=(9,0)) (j:=(4,0)) (by decide)).trans (upd_same _ _ _);(obtain ⟨hb0,hf0⟩:=F3.cell e03 0 _ rfl);(obtain ⟨hb1',hf1⟩:=F3.cell e03 1 _ rfl))))
       have F4:=F3.store e03 1 (.slice MA' (k + 1) mc');have hsz : ((ext w y2).setCell ⟨w.heap.size + 1,1,none⟩ (.slice MA' (k + 1) mc')).heap.size = (ext w y2).heap.size:=by simp [World.setCell]
       obtain ⟨y3,hy3⟩:=ext_ex (show Below w.heap.size w ((ext w y2).setCell ⟨w.heap.size + 1,1,none⟩ (.slice MA' (k + 1) mc')) from bL);rw [<- hsz] at F4;go_roundw
       case rel=>exact ⟨k + 1,_,NA',MA',nc',mc',y3,Om,by go_num,hy3,F4,by simp [upd],by simp [upd,e1],by simp [upd,e2],by rw [HT1.out];simp [upd,bs],by rw [HT2.out];simp [upd]⟩
       case measure=>simp [intOf];omega
      ·
       have hq : ∀ x : UInt8,¬ word.data.toList.getLast? = some x -> ¬ (word.extract (word.size - 1) word.size).toList = [x]:=fun x hx e=>hx (by rw [hl2];rw [hl1] at e;injection e with e;rw [e])
       have hqa:=beq_eq_false_iff_ne.2 (hq 60 hc.1);have hqb:=beq_eq_false_iff_ne.2 (hq 101 hc.2.1);have hqc:=beq_eq_false_iff_ne.2 (hq 42 hc.2.2);rw [hv,bs_of] at HT1;rw [hv] at HT2;clear hv hc hl1 hl2 hl3 hq;go_wp2_with (go_at_call 148;((with_reducible refine (itSigns_any _).mono ?_);rintro e w' ⟨A5,n5,c5,x5,rfl,rfl,o5⟩;(obtain rfl : n5 = 4:=o5.len.symm);(obtain ⟨g5,rfl,hg5,hg52⟩:=o5.form_ Om);(have k0 : _ = some (Value.string ⟨#[]⟩):=o5.cell_ 0 Om);(have k1 : _ = some (Value.string ⟨#[60]⟩):=o5.cell_ 1 Om);(have k2 : _ = some (Value.string ⟨#[101]⟩):=o5.cell_ 2 Om);(have k3 : _ = some (Value.string ⟨#[42]⟩):=o5.cell_ 3 Om);have hF5:=hF.below' (ext_below _ x5) (Nat.le_refl _);(obtain ⟨hb0,hf0⟩:=hF5.cell e0 0 _ rfl);(obtain ⟨hb1',hf1⟩:=hF5.cell e0 1 _ rfl)))
       refine wp_loop_rounds 5 ?_
       iterate 5 (rw [rounds_succ];go_wp2_with (first | ((at_builtin;(refine wpl_push_strJ w _ _ _ ?_ rfl _ _ rfl NA k nc _ rfl (hF5.ownT e3) ?_ ?_ rfl hkb ?_);(focus (first | rfl | (simp;done)));exact bL;exact bL;intro NA' nc' y1 ho1 hg1 hd1);have F1:=hF5.grewT e3 hg1 ho1 hd1 (Nat.le_refl _);have e01:=(upd_ne R (rowT NA' (k + 1) nc' (nms ++ [word])) (i:=(9,0)) (j:=(3,0)) (by decide)).trans e0;(obtain ⟨hb0,hf0⟩:=F1.cell e01 0 _ rfl);(obtain ⟨hb1',hf1⟩:=F1.cell e01 1 _ rfl);have F2:=F1.store e01 0 (.slice NA' (k + 1) nc');have e42:=((upd_ne (upd R (3,0) (rowT NA' (k + 1) nc' (nms ++ [word]))) ⟨61,3,some ⟨w.heap.size + 1,0,none⟩,1,1,[.slice NA' (k + 1) nc',.slice MA k mc,.bool late]⟩ (i:=(4,0)) (j:=(9,0)) (by decide)).trans (upd_ne R (rowT NA' (k + 1) nc' (nms ++ [word])) (i:=(4,0)) (j:=(3,0)) (by decide))).trans e4;have hM2:=F2.ownI e42) | ((at_builtin;(refine wpl_push_int w _ _ _ ?_ rfl _ _ rfl MA k mc _ rfl hM2 ?_ ?_ rfl hkb ?_);(focus (first | rfl | (simp;done)));exact bL;exact bL;intro MA' mc' y2 ho2 hg2 hd2);have F3:=F2.grewI e42 hg2 ho2 hd2 (by simp [World.setCell]);have e03:=(upd_ne (upd (upd R (3,0) (rowT NA' (k + 1) nc' (nms ++ [word]))) (9,0) ⟨61,3,some ⟨w.heap.size + 1,0,none⟩,1,1,[.slice NA' (k + 1) nc',.slice MA k mc,.bool late]⟩) (rowI MA' (k + 1) mc' (mks ++ [0])) (i:=(9,0)) (j:=(4,0)) (by decide)).trans (upd_same _ _ _);(obtain ⟨hb0,hf0⟩:=F3.cell e03 0 _ rfl);(obtain ⟨hb1',hf1⟩:=F3.cell e03 1 _ rfl))))
       have F4:=F3.store e03 1 (.slice MA' (k + 1) mc');have hsz : ((ext w y2).setCell ⟨w.heap.size + 1,1,none⟩ (.slice MA' (k + 1) mc')).heap.size = (ext w y2).heap.size:=by simp [World.setCell]
       obtain ⟨y3,hy3⟩:=ext_ex (show Below w.heap.size w ((ext w y2).setCell ⟨w.heap.size + 1,1,none⟩ (.slice MA' (k + 1) mc')) from bL);rw [<- hsz] at F4;go_roundw
       case rel=>exact ⟨k + 1,_,NA',MA',nc',mc',y3,Om,by go_num,hy3,F4,by simp [upd],by simp [upd,e1],by simp [upd,e2],by rw [HT1.out];simp [upd,bs],by rw [HT2.out];simp [upd]⟩
       case measure=>simp [intOf];omega
    ·
     obtain rfl : k = n1:=Om;have hnz : ∀ x ∈ ws.map (fun w=>bs (sepW w.data.toList).1),x.size <= 9223372036854775807:=fun x hx=>by
      obtain ⟨z,hz,rfl⟩:=List.mem_map.1 hx;have h1:=hws z hz;have h2 : (sepW z.data.toList).1.length <= z.data.toList.length:=by
       rcases sepW_cases z.data.toList with ⟨_,hv⟩ | ⟨_,hv⟩ | ⟨_,hv⟩ | ⟨_,hv⟩ <;> rw [hv] <;> simp
      rw [Lib.size_eq,bs_data];rw [<- Lib.size_eq] at h2;omega
     rw [List.take_of_length_le Om] at e3 e4;rw [<- HN.out] at e3 hnz;rw [<- HK.out] at e4;have hN:=(hF.ownT e3).rd;have hMk:=(hF.ownI e4).rd;have ci:=fun W (h : Below (ext w y).heap.size (ext w y) W)=>itGood_any W NA MA k nc k mc (nmsOf s.data.toList) (mksOf s.data.toList) late (hN.below h) (hMk.below h) Om Om hnz
     have ct:=fun (hq : itemB (nmsOf s.data.toList,mksOf s.data.toList,late) = true) W (h : Below (ext w y).heap.size (ext w y) W)=>itText_any W NA MA k nc k mc (nmsOf s.data.toList,mksOf s.data.toList,late) (hN.below h) (hMk.below h) (by have h9:=(item_of hq).1.1;have h8:=hN.len;simp only at h9;omega) (by have h9:=(item_of hq).1.2;have h8:=hN.len;simp only at h9;omega) (item_of hq).2.1 (item_of hq).2.2
     obtain ⟨hv0,_⟩:=hF.cell e0 0 _ rfl;have hq0:=fun y2=>((hF.below' (ext_below _ y2) (Nat.le_refl _)).cell e0 0 _ rfl).1
     have hw0:=fun y2 y3=>(((hF.below' (ext_below _ y2) (Nat.le_refl _)).below' (ext_below _ y3) (Nat.le_refl _)).cell e0 0 _ rfl).1
     have hr0:=fun y2=>((hF.below' (ext_below _ y2) (Nat.le_refl _)).cell e1 0 _ rfl).1
     have hs0:=fun y2 y3=>(((hF.below' (ext_below _ y2) (Nat.le_refl _)).below' (ext_below _ y3) (Nat.le_refl _)).cell e1 0 _ rfl).1
     have hz0:=fun y2=>((hF.below' (ext_below _ y2) (Nat.le_refl _)).cell e1 0 _ rfl).2
     have hy0:=fun y2 y3=>(((hF.below' (ext_below _ y2) (Nat.le_refl _)).below' (ext_below _ y3) (Nat.le_refl _)).cell e1 0 _ rfl).2
     obtain ⟨hv1,_⟩:=hF.cell e0 1 _ rfl;have hq1:=fun y2=>((hF.below' (ext_below _ y2) (Nat.le_refl _)).cell e0 1 _ rfl).1
     have hw1:=fun y2 y3=>(((hF.below' (ext_below _ y2) (Nat.le_refl _)).below' (ext_below _ y3) (Nat.le_refl _)).cell e0 1 _ rfl).1
     have hr1:=fun y2=>((hF.below' (ext_below _ y2) (Nat.le_refl _)).cell e1 1 _ rfl).1
     have hs1:=fun y2 y3=>(((hF.below' (ext_below _ y2) (Nat.le_refl _)).below' (ext_below _ y3) (Nat.le_refl _)).cell e1 1 _ rfl).1
     have hz1:=fun y2=>((hF.below' (ext_below _ y2) (Nat.le_refl _)).cell e1 1 _ rfl).2
     have hy1:=fun y2 y3=>(((hF.below' (ext_below _ y2) (Nat.le_refl _)).below' (ext_below _ y3) (Nat.le_refl _)).cell e1 1 _ rfl).2
     obtain ⟨hv2,_⟩:=hF.cell e0 2 _ rfl;have hq2:=fun y2=>((hF.below' (ext_below _ y2) (Nat.le_refl _)).cell e0 2 _ rfl).1
     have hw2:=fun y2 y3=>(((hF.below' (ext_below _ y2) (Nat.le_refl _)).below' (ext_below _ y3) (Nat.le_refl _)).cell e0 2 _ rfl).1
     have hr2:=fun y2=>((hF.below' (ext_below _ y2) (Nat.le_refl _)).cell e1 2 _ rfl).1
     have hs2:=fun y2 y3=>(((hF.below' (ext_below _ y2) (Nat.le_refl _)).below' (ext_below _ y3) (Nat.le_refl _)).cell e1 2 _ rfl).1
     have hz2:=fun y2=>((hF.below' (ext_below _ y2) (Nat.le_refl _)).cell e1 2 _ rfl).2
     have hy2:=fun y2 y3=>(((hF.below' (ext_below _ y2) (Nat.le_refl _)).below' (ext_below _ y3) (Nat.le_refl _)).cell e1 2 _ rfl).2
     have HB : Hid (itPo s.data.toList = if itemB (nmsOf s.data.toList,mksOf s.data.toList,late) && ((itemS (nmsOf s.data.toList,mksOf s.data.toList,late)).data.toList == s.data.toList) then some (nmsOf s.data.toList,mksOf s.data.toList,late) else none):=by unfold Hid itPo;rw [HI.out]
     clear hN hMk hnz HI HN HK hws hwn hwl csp htz
     cases hq : itemB (nmsOf s.data.toList,mksOf s.data.toList,late)
     ·
      rw [hq] at HB ci;have HB2 : Hid (itPo s.data.toList = none):=HB.out;clear HB hq ct;go_wp2_with ((go_at_call 149;((with_reducible refine ex (ci _ bL) ?_);intro y2)))
      refine bodyPost_ret (v:=.tuple #[.agg #[.slice none 0 0,.slice none 0 0,.bool false],.bool false]) (by simp [results,Tryz.results103,go_sem,hr0,hr1,hr2,hs0,hs1,hs2]) rfl ?_;exact RetItK.none_ HB2.out bL
     ·
      have ct:=ct hq;rw [hq] at HB ci;obtain ⟨tx,htx⟩ : ∃ tx,itemS (nmsOf s.data.toList,mksOf s.data.toList,late) = tx:=⟨_,rfl⟩;rw [htx] at ct HB;by_cases he : tx.toList = s.toList
      ·
       have HB2 : Hid (itPo s.data.toList = some (nmsOf s.data.toList,mksOf s.data.toList,late)):=by unfold Hid;rw [HB.out,<- Lib.toList_data,<- Lib.toList_data,he];simp
       have heB : (tx.toList == s.toList) = true:=by rw [he];simp
       clear HB hq htx;go_wp2_with (first | (go_at_call 149;((with_reducible refine ex (ci _ bL) ?_);intro y2)) | (go_at_call 120;((with_reducible refine (ct _ bL).mono ?_);rintro e w' ⟨rfl,y3,rfl⟩)))
       refine bodyPost_ret (v:=.tuple #[.agg #[.slice NA k nc,.slice MA k mc,.bool late],.bool true]) (by simp [results,Tryz.results103,go_sem,hr0,hr1,hr2,hs0,hs1,hs2]) rfl ?_;have G0:=(hF.below' (ext_below _ y2) (Nat.le_refl _)).below' (ext_below _ y3) (Nat.le_refl _);have G3:=((G0.store e1 0 (.slice NA k nc)).store (upd_same _ _ _) 1 (.slice MA k mc)).store (upd_same _ _ _) 2 (.bool late);exact RetItK.mk_ (i:=(3,0)) (j:=(4,0)) HB2.out rfl G3 (by decide) (by simp [upd,e3]) (by simp [upd,e4]) (Nat.le_refl _) bL
      ·
       have HB2 : Hid (itPo s.data.toList = none):=by unfold Hid;rw [HB.out,<- Lib.toList_data,<- Lib.toList_data,beq_eq_false_iff_ne.2 he];rfl
       have heB : (tx.toList == s.toList) = false:=beq_eq_false_iff_ne.2 he;clear HB hq htx;go_wp2_with (first | (go_at_call 149;((with_reducible refine ex (ci _ bL) ?_);intro y2)) | (go_at_call 120;((with_reducible refine (ct _ bL).mono ?_);rintro e w' ⟨rfl,y3,rfl⟩)))
       refine bodyPost_ret (v:=.tuple #[.agg #[.slice none 0 0,.slice none 0 0,.bool false],.bool false]) (by simp [results,Tryz.results103,go_sem,hr0,hr1,hr2,hs0,hs1,hs2]) rfl ?_;exact RetItK.none_ HB2.out bL
def dcK (s : Str) : Bool:=match spl 32 s with
 | [a,b,c]=>slipB (readL 6 a) (readL 6 b) (readL 6 c)
 | _=>false
def RetDc (w : World) (v : SL) (ok : Bool) (e : Ending) (w' : World) : Prop:=e = .returned (.tuple #[.agg #[.int .i64 v.1,.int .i64 v.2.1,.int .i64 v.2.2],.bool ok]) /\ ∃ x,w' = ext w x
theorem RetDc.mk_ {w W : World} {v : SL} {ok : Bool} {a b c : Int} {ok' : Bool} (h : v = (a,b,c)) (hk : ok = ok') (hb : Below w.heap.size w W) : RetDc w v ok (.returned (.tuple #[.agg #[.int .i64 a,.int .i64 b,.int .i64 c],.bool ok'])) W:=by
 subst h hk;exact ⟨rfl,ext_ex hb⟩
theorem dc_len {s : Str} (h : (spl 32 s).length ≠ 3) : dcP s = (0,0,0) /\ dcK s = false:=by
 unfold dcP dcK;generalize spl 32 s = l at *
 match l,h with
 | [],_=>exact ⟨rfl,rfl⟩
 | [_],_=>exact ⟨rfl,rfl⟩
 | [_,_],_=>exact ⟨rfl,rfl⟩
 | [_,_,_],h=>exact absurd rfl h
 | _ :: _ :: _ :: _ :: _,_=>exact ⟨rfl,rfl⟩
theorem dc_at {s x y z : Str} (h : spl 32 s = [x,y,z]) : dcP s = (if slipB (readL 6 x) (readL 6 y) (readL 6 z) then (readL 6 x,readL 6 y,readL 6 z) else (0,0,0)) /\ dcK s = slipB (readL 6 x) (readL 6 y) (readL 6 z):=by
 unfold dcP dcK;rw [h];exact ⟨rfl,rfl⟩
theorem dcParse_any (s : ByteArray) (w : World) (hs : s.size <= 1999999) :
  Calls Tryz.prog 101 #[.string s] w (RetDc w (dcP s.data.toList) (dcK s.data.toList)):=by
 have csp:=fun W=>l1Split_any s 32 32 rfl W Om
 have hlen : (spls 32 s).length = (spl 32 s.data.toList).length:=by unfold spls;rw [List.length_map]
 have hsz : ∀ x ∈ spls 32 s,x.size <= 2000000:=fun x hx=>Nat.le_trans (spls_mem hx) Om
 have hd:=spls_data 32 s;by_cases h3 : (spl 32 s.data.toList).length = 3
 ·
  rw [h3] at hlen;generalize spls 32 s = WL at *
  match WL,hlen with
  | [x,y,z],_ =>
   have hv:=dc_at hd.symm;have cx:=fun W=>l1Read_any x W (Nat.le_trans (hsz x (by simp)) Om)
   have cy:=fun W=>l1Read_any y W (Nat.le_trans (hsz y (by simp)) Om)
   have cz:=fun W=>l1Read_any z W (Nat.le_trans (hsz z (by simp)) Om)
   have HV:=Lib.hid hv;clear hd hsz h3 hv;generalize readL 6 x.data.toList = a at *;generalize readL 6 y.data.toList = b at *;generalize readL 6 z.data.toList = c at *;have cg:=fun W=>dcGood_any a b c W
   cases hq : slipB a b c
   all_goals
    rw [hq] at cg HV;clear hq;go_enter Tryz.func101,Tryz.ntmps101;go_wp2_with ((go_at_call 55;((with_reducible refine (csp _).mono ?_);rintro e w' ⟨A1,n1,c1,x1,rfl,rfl,o1⟩;(obtain rfl : n1 = 3:=o1.len.symm);(obtain ⟨g,rfl,hg,hg2⟩:=o1.form_ Om);(have k0:=o1.cell_ 0 Om);(have k1:=o1.cell_ 1 Om);(have k2:=o1.cell_ 2 Om);simp only [List.getElem?_cons_zero,List.getElem?_cons_succ,Option.getD_some] at k0 k1 k2)))
    have kk:=fun (W : World) (h : Below (ext (w.alloc (.cells #[.int .i64 0,.int .i64 0,.int .i64 0] 33)) x1).heap.size (ext (w.alloc (.cells #[.int .i64 0,.int .i64 0,.int .i64 0] 33)) x1) W)=>(⟨(h.cell (p:=⟨g,0,none⟩) hg2).trans k0,(h.cell (p:=⟨g,1,none⟩) hg2).trans k1,(h.cell (p:=⟨g,2,none⟩) hg2).trans k2⟩ : W.cell? ⟨g,0,none⟩ = some (.string x) /\ W.cell? ⟨g,1,none⟩ = some (.string y) /\ W.cell? ⟨g,2,none⟩ = some (.string z))
    go_region_held3 (fun w'=>w'.cell? ⟨g,0,none⟩ = some (.string x) /\ w'.cell? ⟨g,1,none⟩ = some (.string y) /\ w'.cell? ⟨g,2,none⟩ = some (.string z)) (exact kk _ bL) (first | (go_at_call 100;(with_reducible refine ep (cx _) ?_)) | (go_at_call 100;(with_reducible refine ep (cy _) ?_)) | (go_at_call 100;(with_reducible refine ep (cz _) ?_)))
    all_goals
     go_wp2_with ((go_at_call 116;((with_reducible refine ex (cg _) ?_);intro x3)))
     have hB : Below (w.alloc (.cells #[.int .i64 0,.int .i64 0,.int .i64 0] 33)).heap.size (w.alloc (.cells #[.int .i64 0,.int .i64 0,.int .i64 0] 33)) (ext ((ext (w.alloc (.cells #[.int .i64 0,.int .i64 0,.int .i64 0] 33)) x1).alloc (.cells #[.int .i64 a,.int .i64 b,.int .i64 c] 33)).drew x3):=bL;have q0:=(hB.cell (p:=⟨w.heap.size,0,none⟩) Sg).trans (show _ = some (.int .i64 0) from by simp [go_sem]);have q1:=(hB.cell (p:=⟨w.heap.size,1,none⟩) Sg).trans (show _ = some (.int .i64 0) from by simp [go_sem]);have q2:=(hB.cell (p:=⟨w.heap.size,2,none⟩) Sg).trans (show _ = some (.int .i64 0) from by simp [go_sem])
     first
     | (
       refine bodyPost_ret (v:=.tuple #[.agg #[.int .i64 0,.int .i64 0,.int .i64 0],.bool false]) (by simp [results,Tryz.results101,go_sem,q0,q1,q2];done) rfl ?_;exact RetDc.mk_ HV.out.1 HV.out.2 bL)
     | (
       refine bodyPost_ret (v:=.tuple #[.agg #[.int .i64 a,.int .i64 b,.int .i64 c],.bool true]) (by simp [results,Tryz.results101,go_sem,q0,q1,q2]) rfl ?_;exact RetDc.mk_ HV.out.1 HV.out.2 bL)
 ·
  obtain ⟨hv,hk⟩:=dc_len h3;rw [<- hlen] at h3;rw [hv,hk];generalize spls 32 s = WL at *;have h3' : ∀ n : Nat,WL.length = n -> ¬ (n : Int) = 3:=fun n h e=>h3 Om
  have h3B : ∀ n : Nat,WL.length = n -> ((n : Int) == 3) = false:=fun n h=>by have:=h3' n h;simp;omega
  clear h3 hd hsz hlen hv hk;go_enter Tryz.func101,Tryz.ntmps101;go_wp2_with ((go_at_call 55;((with_reducible refine (csp _).mono ?_);rintro e w' ⟨A1,n1,c1,x1,rfl,rfl,o1⟩;(have hq1:=h3' n1 o1.len);(have hq2:=h3B n1 o1.len))))
  refine bodyPost_ret (v:=.tuple #[.agg #[.int .i64 0,.int .i64 0,.int .i64 0],.bool false]) (by simp [results,Tryz.results101,go_sem]) rfl ?_;exact RetDc.mk_ rfl rfl bL
end Go.Proofs.YtlfhhkgleapamaaGreatDoor
