/- Contracts: marks read from text, in the reference. Conditions: strings below 2^21 bytes. -/
import Derived.Test.YtlfhhkgleapamaaGreatDoorRPar4x
import Derived.Test.YtlfhhkgleapamaaGreatDoorRReads
import Derived.Test.YtlfhhkgleapamaaGreatDoorRSpA
import Derived.Test.YtlfhhkgleapamaaGreatDoorRTxts
import Derived.Test.YtlfhhkgleapamaaGreatDoorRPar5s
import Derived.Test.YtlfhhkgleapamaaGreatDoorRPar7s
set_option linter.unusedVariables false
set_option linter.unusedSimpArgs false
set_option maxRecDepth 100000
set_option maxHeartbeats 16000000
namespace Go.Proofs.YtlfhhkgleapamaaGreatDoor
open Go.RowKit
theorem RdT.cells3 {w : World} {b off n : Nat} {l : List ByteArray} (h : RdT w (some ⟨b,off,none⟩) n l) (hn : 0 < n) : b < w.heap.size /\ ∀ (j : Nat) x,l[j]? = some x -> w.cell? ⟨b,off + j,none⟩ = some (.string x):=by
 obtain ⟨b2,off2,e,hlt,hc⟩:=h.2 hn;injection e with e;injection e with e1 e2;subst e1 e2;exact ⟨hlt,fun j x hx=>hc j _ (by rw [List.getElem?_map,hx];rfl)⟩
def rowM (ws : List ByteArray) : List Int:=ws.map fun x=>mkNum x.data.toList
theorem rowM_snoc (ws : List ByteArray) (k : Nat) (h : k < ws.length) : rowM (ws.take (k + 1)) = rowM (ws.take k) ++ [mkNum (ws[k]?.getD ByteArray.empty).data.toList]:=by
 unfold rowM;rw [take_succ_getD ByteArray.empty ws k h,List.map_append];rfl
theorem mkStep_at (m : MM) (s : ByteArray) : mkStep m s.data.toList = if ((spls 32 s)[0]?.getD ByteArray.empty).data.toList = [103] then (m.1 ++ [rowM ((spls 32 s).drop 1)],m.2) else if ((spls 32 s)[0]?.getD ByteArray.empty).data.toList = [99] then (m.1,m.2 ++ [rowM ((spls 32 s).drop 1)]) else m:=by
 have e : (spl 32 s.data.toList).tail.map mkNum = rowM ((spls 32 s).drop 1):=by
  rw [spl_tail,List.map_map];rfl
 unfold mkStep;rw [spl_head,e]
theorem mkFold_snoc (ls : List Str) (k : Nat) (h : k < ls.length) : mkFold (ls.take (k + 1)) = mkStep (mkFold (ls.take k)) (ls[k]?.getD []):=by
 unfold mkFold;rw [take_succ_getD [] ls k h,List.foldl_append];rfl
theorem mkR_long {s : Str} (h : ¬ (spl 10 s).length <= 18) : mkR s = none:=by unfold mkR;rw [if_neg h]
theorem mkR_at {s : Str} (h : (spl 10 s).length <= 18) : mkR s = if marksB (mkFold (spl 10 s)).1 (mkFold (spl 10 s)).2 && ((marksS (mkFold (spl 10 s)).1 (mkFold (spl 10 s)).2).data.toList == s) then some (mkFold (spl 10 s)) else none:=by unfold mkR;rw [if_pos h]

theorem spParseMarks_any (s : ByteArray) (w : World) (hs : s.size <= 1999999) :
  Calls Tryz.prog 104 #[.string s] w (RetMkK w (mkR s.data.toList)):=by
 have csl:=fun W=>l1Split_any s 10 10 rfl W Om
 have hlen : (spls 10 s).length = (spl 10 s.data.toList).length:=by unfold spls;rw [List.length_map]
 by_cases hl : ¬ (spl 10 s.data.toList).length <= 18
 ·
  have HE:=Lib.hid (mkR_long hl);rw [<- hlen] at hl;generalize spls 10 s = lb at *;have hn:=fun (n : Nat) (h : lb.length = n)=>(show (18 : Int) < n by omega)
  clear hl hlen;go_enter Tryz.func104,Tryz.ntmps104;go_wp2_with ((go_at_call 55;((with_reducible refine (csl _).mono ?_);rintro e w' ⟨A1,n1,c1,x1,rfl,rfl,o1⟩;have hnI:=hn n1 o1.len)))
  refine bodyPost_ret (v:=.tuple #[.agg #[.slice none 0 0,.slice none 0 0],.bool false]) (by simp [results,Tryz.results104,go_sem]) rfl ?_;exact RetMkK.none_ HE.out bL
 have hl:=Classical.not_not.1 hl;have HV:=Lib.hid (mkR_at hl);have hls:=spls_data 10 s;have hlz : ∀ x ∈ spls 10 s,x.size <= 1999999:=fun x hx=>Nat.le_trans (spls_mem hx) hs
 rw [<- hlen] at hl;rw [<- hls] at HV;clear hlen hls;generalize spls 10 s = lb at *;have hn:=fun (n : Nat) (h : lb.length = n)=>(show ¬ (18 : Int) < n by omega)
 go_enter Tryz.func104,Tryz.ntmps104;go_wp2_with ((go_at_call 55;((with_reducible refine (csl _).mono ?_);rintro e w' ⟨A1,n1,c1,x1,rfl,rfl,o1⟩;(have hnI:=hn n1 o1.len);have hl1:=o1.len)))
 have hn18 : n1 <= 18:=Om;have HL1:=Lib.hid hl1;have sz : ∀ (W : World) (o : Obj),(W.alloc o).heap.size = W.heap.size + 1:=fun W o=>by simp [go_sem]
 have hS0 : w.heap.size + 1 <= (ext (w.alloc (.cells #[.slice none 0 0,.slice none 0 0] 31)) x1).heap.size:=by have:=ext_le (w.alloc (.cells #[.slice none 0 0,.slice none 0 0] 31)) x1;rw [sz] at this;exact this
 have F1:=(Fo.nil_ (b:=w.heap.size) (hi:=w.heap.size) (w:=w)).lit (j:=(9,1)) rfl (Nat.le_refl _) (Nat.le_refl _) 31 2 1 #[.slice none 0 0,.slice none 0 0] rfl (by simp [maxLen]) [.slice none 0 0,.slice none 0 0] rfl;have F2:=F1.addT (j:=(9,2)) (by simp [upd,famN]) (ext_below _ x1) (by simp only [sz];omega) (by simp only [sz];omega) (by simp only [sz];omega) o1;have F5:=F2.lit (j:=(9,0)) (by simp [upd,famN]) (Nat.le_refl _) Om 31 2 1 #[.slice none 0 0,.slice none 0 0] rfl (by simp [maxLen]) _ rfl;have F5:=(F5.putF (j:=(1,0)) (r:=⟨25,1,none,0,0,[]⟩) (World.grownBy.refl _ _) Ow.nil_ (fun _ _=>.inl rfl) (Nat.le_refl _) (fun z hz=>by cases hz)).putF (j:=(2,0)) (r:=⟨25,1,none,0,0,[]⟩) (World.grownBy.refl _ _) Ow.nil_ (fun _ _=>.inl rfl) (Nat.le_refl _) (fun z hz=>by cases hz);clear F1 F2 o1;have hsW : ((ext (w.alloc (.cells #[.slice none 0 0,.slice none 0 0] 31)) x1).alloc (.cells #[.slice none 0 0,.slice none 0 0] 31)).heap.size = (ext (w.alloc (.cells #[.slice none 0 0,.slice none 0 0] 31)) x1).heap.size + 1:=by simp only [sz]
 go_loopw [7,8,9,11,21,28,29,30,42,43,51] (fun _ _ _ _ i _ _ _ _ _ _ wr=>∃ (k : Nat) (R : Fam) (GA : OA) (gn gc : Nat) (gg : List (List Int)) (KA : OA) (kn kc : Nat) (kk : List (List Int)) (y : World),k <= n1 /\ i = .int .i64 k /\ wr = ext w y /\ Fo w.heap.size wr.heap.size wr R /\ R (9,0) = ⟨31,2,some ⟨(ext (w.alloc (.cells #[.slice none 0 0,.slice none 0 0] 31)) x1).heap.size,0,none⟩,1,1,[.slice GA gn gc,.slice KA kn kc]⟩ /\ R (9,1) = ⟨31,2,some ⟨w.heap.size,0,none⟩,1,1,[.slice none 0 0,.slice none 0 0]⟩ /\ R (9,2) = rowT A1 n1 c1 lb /\ TbF 1 5 R GA gn gc gg /\ TbF 2 6 R KA kn kc kk /\ gn + kn <= k /\ Hid ((∀ l ∈ gg,l.length <= 2000001) /\ ∀ l ∈ kk,l.length <= 2000001) /\ Hid (mkFold ((lb.map (·.data.toList)).take k) = (gg,kk))) (fun _ _ _ _ i _ _ _ _ _ _ _=>n1 - (intOf i).toNat)
 case atStart =>
  obtain ⟨y,hy⟩:=ext_ex (show Below w.heap.size w ((ext (w.alloc (.cells #[.slice none 0 0,.slice none 0 0] 31)) x1).alloc (.cells #[.slice none 0 0,.slice none 0 0] 31)) from bL);refine ⟨0,_,none,0,0,[],none,0,0,[],y,Om,rfl,hy,F5.mono (Nat.le_refl _) (by rw [hsW];exact Nat.le_refl _),by simp [upd],by simp [upd],by simp [upd],⟨rfl,⟨fun _=>none,fun _=>0,fun _=>0,by simp [upd],fun j hj=>absurd hj Om⟩,fun j _=>by simp [upd,famN]⟩,⟨rfl,⟨fun _=>none,fun _=>0,fun _=>0,by simp [upd],fun j hj=>absurd hj Om⟩,fun j _=>by simp [upd,famN]⟩,Om,⟨fun l hl=>by simp at hl,fun l hl=>by simp at hl⟩,rfl⟩
 case round =>
  obtain ⟨k,R,GA,gn,gc,gg,KA,kn,kc,kk,y,hk,rfl,rfl,hF,e0,e1,e2,tG,tK,hgk,HZ,HR⟩:=hrel;clear F5 hsW;by_cases hlt : k < n1
  ·
   obtain ⟨b1,rfl,hb1,hb2⟩:=(hF.ownT e2).form_ Om;have hck:=(hF.ownT e2).cell_ k hlt;have hll : (lb.map (·.data.toList)).length = n1:=by rw [List.length_map];exact HL1.out
   have hstep:=mkFold_snoc (lb.map (·.data.toList)) k (by rw [hll];exact hlt);have hat : (lb.map (·.data.toList))[k]?.getD [] = (lb[k]?.getD ByteArray.empty).data.toList:=by simp [show k < lb.length by rw [HL1.out];exact hlt]
   rw [HR.out,hat,mkStep_at] at hstep;have hlz2:=hlz _ (getD_mem ByteArray.empty lb k (by rw [HL1.out];exact hlt));clear hat hll;generalize lb[k]?.getD ByteArray.empty = line at *;have csp:=fun W=>l1Split_any line 32 32 rfl W Om
   have hpos:=spls_pos 32 line;have hbd:=spls_bd 32 line;have hsz : ∀ x ∈ spls 32 line,x.size <= 2000000:=fun x hx=>Nat.le_trans (spls_mem hx) Om
   generalize spls 32 line = WL at *;have hsz2:=mem_drop_sz hsz 1;have hTl : (WL.drop 1).length + 1 = WL.length:=by rw [List.length_drop];omega
   generalize hT : WL.drop 1 = T at *;have HT:=Lib.hid hT;generalize hw0 : WL[0]?.getD ByteArray.empty = w0 at *;have HW:=Lib.hid hw0;have HST:=Lib.hid hstep;clear hT hw0 hsz hstep;go_wp2_with ((go_at_call 55;((with_reducible refine (csp _).mono ?_);rintro e w' ⟨A2,n2,c2,x2,rfl,rfl,o2⟩;(have hl2:=o2.len);(obtain ⟨b2,rfl,hb2,hb2'⟩:=o2.form_ Om);(have hc0:=o2.cell_ 0 Om);(rw [HW.out] at hc0);(have hcap:=o2.cap_);(have hr1:=o2.rd.drop_ 1 Om);(rw [HT.out,Nat.zero_add] at hr1);(have hr0 : c2 = 1 -> RdT (ext (ext w y) x2) (some ⟨b2,0,none⟩) (n2 - 1) T:=fun e=>⟨by have:=hr1.len;simpa using this,fun h=>absurd h Om⟩);(have h1n : 1 <= n2:=Om);(have h1I : (1 : Int) <= n2:=Om))))
   ·
    skip
    have hTn : T.length = n2 - 1:=Om
    go_loopw [9,11,30] (fun t _ i wz=>∃ (j : Nat) (D : OA) (dc : Nat) (z : World),j <= n2 - 1 /\ i = .int .i64 j /\ t = .slice D j dc /\ wz = ext (ext (ext w y) x2) z /\ OwI (ext (ext w y) x2).heap.size (ext (ext (ext w y) x2) z) D j dc (rowM (T.take j))) (fun _ _ i _=>n2 - 1 - (intOf i).toNat)
    case atStart=>exact ⟨0,none,0,_,Om,rfl,rfl,ext_self _,OwI.nil_⟩
    case round =>
     obtain ⟨j,D,dc,z,hj,rfl,rfl,rfl,ho⟩:=hrel;by_cases hjl : j < n2 - 1
     ·
      exfalso;omega
     ·
      obtain rfl : j = n2 - 1:=Om;rw [List.take_of_length_le Om] at ho;have hrl : (rowM T).length <= 2000001:=by unfold rowM;rw [List.length_map];omega
      have hstep:=HST.out;clear HST;generalize rowM T = row at *;have hm0:=fun x2 x3=>(((hF.below' (ext_below _ x2) (Nat.le_refl _)).below' (ext_below _ x3) (Nat.le_refl _)).cell e0 0 _ rfl).1
      have hm1:=fun x2 x3=>(((hF.below' (ext_below _ x2) (Nat.le_refl _)).below' (ext_below _ x3) (Nat.le_refl _)).cell e0 1 _ rfl).1
      have hgb : w.heap.size <= (ext (w.alloc (.cells #[.slice none 0 0,.slice none 0 0] 31)) x1).heap.size:=Om;have hc0' : (ext (ext (ext w y) x2) z).cell? ⟨b2,0,none⟩ = some (.string w0):=((ext_below _ z).cell (p:=⟨b2,0,none⟩) hb2').trans hc0;by_cases hg : w0.data.toList = [103]
      ·
       have hgT : w0.toList = [103]:=by rw [Lib.toList_data];exact hg
       refine (?_ : _)
       ·
        rw [if_pos hg] at hstep;clear hg;have HN:=Lib.hid hstep;clear hstep;obtain ⟨xs,eT,_⟩:=tG.push (by decide) [] none 0 0;have hOwn:=hF.at_ eT;have hzr:=tG.2.2 gn (Nat.le_refl _);have hkb : gn <= 1099511627776:=Om;go_wp2_with (at_builtin;(refine wpl_push_row w _ _ _ _ _ ?_ rfl _ _ rfl GA gn gc _ rfl (Nat.le_refl _) ?_ hOwn ?_ ?_ rfl hkb ?_);(focus (first | rfl | (simp;done)));(focus (refine szOf ?_;exact bL));exact bL;exact bL;intro A' c' y' ho' hg' hd';have G1:=hF.below' (ext_below _ x2) (Nat.le_refl _);have G2:=G1.addI (j:=(5,gn)) hzr (ext_below _ z) (Nat.le_refl _) (Nat.le_refl _) (Nat.le_trans (ext_le w y) (ext_le _ _)) ho;have eT2:=(upd_ne R (rowI D (n2 - 1) dc row) (i:=(1,0)) (j:=(5,gn)) (by simp)).trans eT;have G3:=G2.grew (j:=(1,0)) eT2 hg' ho' hd' (Nat.le_refl _);have e03:=((upd_ne (upd R (5,gn) (rowI D (n2 - 1) dc row)) ⟨25,1,A',gn + 1,c',xs ++ [.slice D (n2 - 1) dc]⟩ (i:=(9,0)) (j:=(1,0)) (by simp)).trans (upd_ne R (rowI D (n2 - 1) dc row) (i:=(9,0)) (j:=(5,gn)) (by simp))).trans e0;(obtain ⟨hk0,hkf0⟩:=G3.cell e03 0 _ rfl);(obtain ⟨hk1,hkf1⟩:=G3.cell e03 1 _ rfl))
        have G4:=G3.store e03 0 (.slice A' (gn + 1) c');have hsz4 : ((ext w y').setCell ⟨(ext (w.alloc (.cells #[.slice none 0 0,.slice none 0 0] 31)) x1).heap.size,0,none⟩ (.slice A' (gn + 1) c')).heap.size = (ext w y').heap.size:=by simp [World.setCell]
        rw [<- hsz4] at G4;obtain ⟨y3,hy3⟩:=ext_ex (show Below w.heap.size w ((ext w y').setCell ⟨(ext (w.alloc (.cells #[.slice none 0 0,.slice none 0 0] 31)) x1).heap.size,0,none⟩ (.slice A' (gn + 1) c')) from bL);obtain ⟨xs2,eT3,hpush⟩:=tG.push (by decide) row D (n2 - 1) dc;have hxs : xs2 = xs:=by rw [eT] at eT3;injection eT3 with _ _ _ _ _ h;exact h.symm
        subst hxs;go_roundw
        case rel=>exact ⟨k + 1,_,A',gn + 1,c',gg ++ [row],KA,kn,kc,kk,y3,Om,by go_num,hy3,G4,by simp [upd],by simp [upd,e1],by simp [upd,e2],(hpush A' c').of (by simp [upd]) (fun j=>by simp [upd]),tK.of (by simp [upd]) (fun j=>by simp [upd]),Om,⟨fun l hl=>(List.mem_append.1 hl).elim (HZ.out.1 l) (fun h=>by simp at h;subst h;exact hrl),HZ.out.2⟩,HN.out⟩
        case measure=>simp [intOf];omega
      ·
       have hgT : ¬ w0.toList = [103]:=by rw [Lib.toList_data];exact hg
       rw [if_neg hg] at hstep;by_cases hc : w0.data.toList = [99]
       ·
        have hcT : w0.toList = [99]:=by rw [Lib.toList_data];exact hc
        have hgN : ¬ ([99] : Str) = [103]:=by decide
        ·
         rw [if_pos hc] at hstep;clear hg hc hgT;have HN:=Lib.hid hstep;clear hstep;obtain ⟨xs,eT,_⟩:=tK.push (by decide) [] none 0 0;have hOwn:=hF.at_ eT;have hzr:=tK.2.2 kn (Nat.le_refl _);have hkb : kn <= 1099511627776:=Om;go_wp2_with (at_builtin;(refine wpl_push_row w _ _ _ _ _ ?_ rfl _ _ rfl KA kn kc _ rfl (Nat.le_refl _) ?_ hOwn ?_ ?_ rfl hkb ?_);(focus (first | rfl | (simp;done)));(focus (refine szOf ?_;exact bL));exact bL;exact bL;intro A' c' y' ho' hg' hd';have G1:=hF.below' (ext_below _ x2) (Nat.le_refl _);have G2:=G1.addI (j:=(6,kn)) hzr (ext_below _ z) (Nat.le_refl _) (Nat.le_refl _) (Nat.le_trans (ext_le w y) (ext_le _ _)) ho;have eT2:=(upd_ne R (rowI D (n2 - 1) dc row) (i:=(2,0)) (j:=(6,kn)) (by simp)).trans eT;have G3:=G2.grew (j:=(2,0)) eT2 hg' ho' hd' (Nat.le_refl _);have e03:=((upd_ne (upd R (6,kn) (rowI D (n2 - 1) dc row)) ⟨25,1,A',kn + 1,c',xs ++ [.slice D (n2 - 1) dc]⟩ (i:=(9,0)) (j:=(2,0)) (by simp)).trans (upd_ne R (rowI D (n2 - 1) dc row) (i:=(9,0)) (j:=(6,kn)) (by simp))).trans e0;(obtain ⟨hk0,hkf0⟩:=G3.cell e03 0 _ rfl);(obtain ⟨hk1,hkf1⟩:=G3.cell e03 1 _ rfl))
         have G4:=G3.store e03 1 (.slice A' (kn + 1) c');have hsz4 : ((ext w y').setCell ⟨(ext (w.alloc (.cells #[.slice none 0 0,.slice none 0 0] 31)) x1).heap.size,1,none⟩ (.slice A' (kn + 1) c')).heap.size = (ext w y').heap.size:=by simp [World.setCell]
         rw [<- hsz4] at G4;obtain ⟨y3,hy3⟩:=ext_ex (show Below w.heap.size w ((ext w y').setCell ⟨(ext (w.alloc (.cells #[.slice none 0 0,.slice none 0 0] 31)) x1).heap.size,1,none⟩ (.slice A' (kn + 1) c')) from bL);obtain ⟨xs2,eT3,hpush⟩:=tK.push (by decide) row D (n2 - 1) dc;have hxs : xs2 = xs:=by rw [eT] at eT3;injection eT3 with _ _ _ _ _ h;exact h.symm
         subst hxs;go_roundw
         case rel=>exact ⟨k + 1,_,GA,gn,gc,gg,A',kn + 1,c',kk ++ [row],y3,Om,by go_num,hy3,G4,by simp [upd],by simp [upd,e1],by simp [upd,e2],tG.of (by simp [upd]) (fun j=>by simp [upd]),(hpush A' c').of (by simp [upd]) (fun j=>by simp [upd]),Om,⟨HZ.out.1,fun l hl=>(List.mem_append.1 hl).elim (HZ.out.2 l) (fun h=>by simp at h;subst h;exact hrl)⟩,HN.out⟩
         case measure=>simp [intOf];omega
       ·
        have hcT : ¬ w0.toList = [99]:=by rw [Lib.toList_data];exact hc
        rw [if_neg hc] at hstep;have HN:=Lib.hid hstep;have hgB : (w0.toList == [103]) = false:=beq_eq_false_iff_ne.2 hgT;have hcB : (w0.toList == [99]) = false:=beq_eq_false_iff_ne.2 hcT;clear hg hc hstep;have G4:=(hF.below' (ext_below _ x2) (Nat.le_refl _)).below' (ext_below _ z) (Nat.le_refl _);go_wp2;obtain ⟨y3,hy3⟩:=ext_ex (show Below w.heap.size w (ext (ext (ext w y) x2) z) from bL);go_roundw
        case rel=>exact ⟨k + 1,R,GA,gn,gc,gg,KA,kn,kc,kk,y3,Om,by go_num,hy3,G4,e0,e1,e2,tG,tK,Om,HZ.out,HN.out⟩
        case measure=>simp [intOf];omega
   ·
    skip
    have hTn : T.length = n2 - 1:=Om
    go_loopw [9,11,30] (fun t _ i wz=>∃ (j : Nat) (D : OA) (dc : Nat) (z : World),j <= n2 - 1 /\ i = .int .i64 j /\ t = .slice D j dc /\ wz = ext (ext (ext w y) x2) z /\ OwI (ext (ext w y) x2).heap.size (ext (ext (ext w y) x2) z) D j dc (rowM (T.take j))) (fun _ _ i _=>n2 - 1 - (intOf i).toNat)
    case atStart=>exact ⟨0,none,0,_,Om,rfl,rfl,ext_self _,OwI.nil_⟩
    case round =>
     obtain ⟨j,D,dc,z,hj,rfl,rfl,rfl,ho⟩:=hrel;by_cases hjl : j < n2 - 1
     ·
      have hcj:=(RdT.cells3 hr1 Om).2;have hjT : j < T.length:=Om;have hTj : T[j]? = some (T[j]?.getD ByteArray.empty):=by simp [hjT]
      have hxz:=hsz2 _ (getD_mem ByteArray.empty T j hjT);have hcx:=hcj j _ hTj;have HS:=Lib.hid (rowM_snoc T j hjT);have hjb : j <= 1099511627776:=Om;clear hTj hcj;generalize T[j]?.getD ByteArray.empty = x at *;have cm:=fun W=>mkNumber_any x W hxz
      generalize mkNum x.data.toList = v at *;generalize rowM (T.take j) = rj at *;go_wp2_with (first | (go_at_call 150;(with_reducible refine ep (cm _) ?_)) | (at_builtin;(refine wpl_push_int (ext (ext w y) x2) _ _ _ ?_ rfl _ _ rfl D j dc _ rfl ho ?_ ?_ rfl hjb ?_);(focus (first | rfl | (simp;done)));exact bL;exact bL;intro D' c' z' ho' hg hd))
      go_roundw
      case rel=>exact ⟨j + 1,D',c',z',Om,by go_num,rfl,rfl,by rw [HS.out];exact ho'⟩
      case measure=>simp [intOf];omega
     ·
      obtain rfl : j = n2 - 1:=Om;rw [List.take_of_length_le Om] at ho;have hrl : (rowM T).length <= 2000001:=by unfold rowM;rw [List.length_map];omega
      have hstep:=HST.out;clear HST;generalize rowM T = row at *;have hm0:=fun x2 x3=>(((hF.below' (ext_below _ x2) (Nat.le_refl _)).below' (ext_below _ x3) (Nat.le_refl _)).cell e0 0 _ rfl).1
      have hm1:=fun x2 x3=>(((hF.below' (ext_below _ x2) (Nat.le_refl _)).below' (ext_below _ x3) (Nat.le_refl _)).cell e0 1 _ rfl).1
      have hgb : w.heap.size <= (ext (w.alloc (.cells #[.slice none 0 0,.slice none 0 0] 31)) x1).heap.size:=Om;have hc0' : (ext (ext (ext w y) x2) z).cell? ⟨b2,0,none⟩ = some (.string w0):=((ext_below _ z).cell (p:=⟨b2,0,none⟩) hb2').trans hc0;by_cases hg : w0.data.toList = [103]
      ·
       have hgT : w0.toList = [103]:=by rw [Lib.toList_data];exact hg
       refine (?_ : _)
       ·
        rw [if_pos hg] at hstep;clear hg;have HN:=Lib.hid hstep;clear hstep;obtain ⟨xs,eT,_⟩:=tG.push (by decide) [] none 0 0;have hOwn:=hF.at_ eT;have hzr:=tG.2.2 gn (Nat.le_refl _);have hkb : gn <= 1099511627776:=Om;go_wp2_with (at_builtin;(refine wpl_push_row w _ _ _ _ _ ?_ rfl _ _ rfl GA gn gc _ rfl (Nat.le_refl _) ?_ hOwn ?_ ?_ rfl hkb ?_);(focus (first | rfl | (simp;done)));(focus (refine szOf ?_;exact bL));exact bL;exact bL;intro A' c' y' ho' hg' hd';have G1:=hF.below' (ext_below _ x2) (Nat.le_refl _);have G2:=G1.addI (j:=(5,gn)) hzr (ext_below _ z) (Nat.le_refl _) (Nat.le_refl _) (Nat.le_trans (ext_le w y) (ext_le _ _)) ho;have eT2:=(upd_ne R (rowI D (n2 - 1) dc row) (i:=(1,0)) (j:=(5,gn)) (by simp)).trans eT;have G3:=G2.grew (j:=(1,0)) eT2 hg' ho' hd' (Nat.le_refl _);have e03:=((upd_ne (upd R (5,gn) (rowI D (n2 - 1) dc row)) ⟨25,1,A',gn + 1,c',xs ++ [.slice D (n2 - 1) dc]⟩ (i:=(9,0)) (j:=(1,0)) (by simp)).trans (upd_ne R (rowI D (n2 - 1) dc row) (i:=(9,0)) (j:=(5,gn)) (by simp))).trans e0;(obtain ⟨hk0,hkf0⟩:=G3.cell e03 0 _ rfl);(obtain ⟨hk1,hkf1⟩:=G3.cell e03 1 _ rfl))
        have G4:=G3.store e03 0 (.slice A' (gn + 1) c');have hsz4 : ((ext w y').setCell ⟨(ext (w.alloc (.cells #[.slice none 0 0,.slice none 0 0] 31)) x1).heap.size,0,none⟩ (.slice A' (gn + 1) c')).heap.size = (ext w y').heap.size:=by simp [World.setCell]
        rw [<- hsz4] at G4;obtain ⟨y3,hy3⟩:=ext_ex (show Below w.heap.size w ((ext w y').setCell ⟨(ext (w.alloc (.cells #[.slice none 0 0,.slice none 0 0] 31)) x1).heap.size,0,none⟩ (.slice A' (gn + 1) c')) from bL);obtain ⟨xs2,eT3,hpush⟩:=tG.push (by decide) row D (n2 - 1) dc;have hxs : xs2 = xs:=by rw [eT] at eT3;injection eT3 with _ _ _ _ _ h;exact h.symm
        subst hxs;go_roundw
        case rel=>exact ⟨k + 1,_,A',gn + 1,c',gg ++ [row],KA,kn,kc,kk,y3,Om,by go_num,hy3,G4,by simp [upd],by simp [upd,e1],by simp [upd,e2],(hpush A' c').of (by simp [upd]) (fun j=>by simp [upd]),tK.of (by simp [upd]) (fun j=>by simp [upd]),Om,⟨fun l hl=>(List.mem_append.1 hl).elim (HZ.out.1 l) (fun h=>by simp at h;subst h;exact hrl),HZ.out.2⟩,HN.out⟩
        case measure=>simp [intOf];omega
      ·
       have hgT : ¬ w0.toList = [103]:=by rw [Lib.toList_data];exact hg
       rw [if_neg hg] at hstep;by_cases hc : w0.data.toList = [99]
       ·
        have hcT : w0.toList = [99]:=by rw [Lib.toList_data];exact hc
        have hgN : ¬ ([99] : Str) = [103]:=by decide
        ·
         rw [if_pos hc] at hstep;clear hg hc hgT;have HN:=Lib.hid hstep;clear hstep;obtain ⟨xs,eT,_⟩:=tK.push (by decide) [] none 0 0;have hOwn:=hF.at_ eT;have hzr:=tK.2.2 kn (Nat.le_refl _);have hkb : kn <= 1099511627776:=Om;go_wp2_with (at_builtin;(refine wpl_push_row w _ _ _ _ _ ?_ rfl _ _ rfl KA kn kc _ rfl (Nat.le_refl _) ?_ hOwn ?_ ?_ rfl hkb ?_);(focus (first | rfl | (simp;done)));(focus (refine szOf ?_;exact bL));exact bL;exact bL;intro A' c' y' ho' hg' hd';have G1:=hF.below' (ext_below _ x2) (Nat.le_refl _);have G2:=G1.addI (j:=(6,kn)) hzr (ext_below _ z) (Nat.le_refl _) (Nat.le_refl _) (Nat.le_trans (ext_le w y) (ext_le _ _)) ho;have eT2:=(upd_ne R (rowI D (n2 - 1) dc row) (i:=(2,0)) (j:=(6,kn)) (by simp)).trans eT;have G3:=G2.grew (j:=(2,0)) eT2 hg' ho' hd' (Nat.le_refl _);have e03:=((upd_ne (upd R (6,kn) (rowI D (n2 - 1) dc row)) ⟨25,1,A',kn + 1,c',xs ++ [.slice D (n2 - 1) dc]⟩ (i:=(9,0)) (j:=(2,0)) (by simp)).trans (upd_ne R (rowI D (n2 - 1) dc row) (i:=(9,0)) (j:=(6,kn)) (by simp))).trans e0;(obtain ⟨hk0,hkf0⟩:=G3.cell e03 0 _ rfl);(obtain ⟨hk1,hkf1⟩:=G3.cell e03 1 _ rfl))
         have G4:=G3.store e03 1 (.slice A' (kn + 1) c');have hsz4 : ((ext w y').setCell ⟨(ext (w.alloc (.cells #[.slice none 0 0,.slice none 0 0] 31)) x1).heap.size,1,none⟩ (.slice A' (kn + 1) c')).heap.size = (ext w y').heap.size:=by simp [World.setCell]
         rw [<- hsz4] at G4;obtain ⟨y3,hy3⟩:=ext_ex (show Below w.heap.size w ((ext w y').setCell ⟨(ext (w.alloc (.cells #[.slice none 0 0,.slice none 0 0] 31)) x1).heap.size,1,none⟩ (.slice A' (kn + 1) c')) from bL);obtain ⟨xs2,eT3,hpush⟩:=tK.push (by decide) row D (n2 - 1) dc;have hxs : xs2 = xs:=by rw [eT] at eT3;injection eT3 with _ _ _ _ _ h;exact h.symm
         subst hxs;go_roundw
         case rel=>exact ⟨k + 1,_,GA,gn,gc,gg,A',kn + 1,c',kk ++ [row],y3,Om,by go_num,hy3,G4,by simp [upd],by simp [upd,e1],by simp [upd,e2],tG.of (by simp [upd]) (fun j=>by simp [upd]),(hpush A' c').of (by simp [upd]) (fun j=>by simp [upd]),Om,⟨HZ.out.1,fun l hl=>(List.mem_append.1 hl).elim (HZ.out.2 l) (fun h=>by simp at h;subst h;exact hrl)⟩,HN.out⟩
         case measure=>simp [intOf];omega
       ·
        have hcT : ¬ w0.toList = [99]:=by rw [Lib.toList_data];exact hc
        rw [if_neg hc] at hstep;have HN:=Lib.hid hstep;have hgB : (w0.toList == [103]) = false:=beq_eq_false_iff_ne.2 hgT;have hcB : (w0.toList == [99]) = false:=beq_eq_false_iff_ne.2 hcT;clear hg hc hstep;have G4:=(hF.below' (ext_below _ x2) (Nat.le_refl _)).below' (ext_below _ z) (Nat.le_refl _);go_wp2;obtain ⟨y3,hy3⟩:=ext_ex (show Below w.heap.size w (ext (ext (ext w y) x2) z) from bL);go_roundw
        case rel=>exact ⟨k + 1,R,GA,gn,gc,gg,KA,kn,kc,kk,y3,Om,by go_num,hy3,G4,e0,e1,e2,tG,tK,Om,HZ.out,HN.out⟩
        case measure=>simp [intOf];omega
  ·
   obtain rfl : k = n1:=Om;have HFd:=HR.out;rw [List.take_of_length_le (by rw [List.length_map,HL1.out];exact Nat.le_refl _)] at HFd;have HV2:=HV.out;rw [HFd] at HV2;have HV3:=Lib.hid HV2;have hRd:=RdMk.of_len (tG.rd hF) (tK.rd hF) Om Om HZ.out;obtain ⟨hn0,_⟩:=hF.cell e0 0 _ rfl;obtain ⟨hn1,_⟩:=hF.cell e0 1 _ rfl;have hq0:=fun y2=>((hF.below' (ext_below _ y2) (Nat.le_refl _)).cell e0 0 _ rfl).1
   have hr0:=fun y2=>((hF.below' (ext_below _ y2) (Nat.le_refl _)).cell e1 0 _ rfl).1
   have hs0:=fun y2 y3=>(((hF.below' (ext_below _ y2) (Nat.le_refl _)).below' (ext_below _ y3) (Nat.le_refl _)).cell e1 0 _ rfl).1
   have hw0:=fun y2 y3=>(((hF.below' (ext_below _ y2) (Nat.le_refl _)).below' (ext_below _ y3) (Nat.le_refl _)).cell e0 0 _ rfl).1
   have hz0:=fun y2=>((hF.below' (ext_below _ y2) (Nat.le_refl _)).cell e1 0 _ rfl).2
   have hy0:=fun y2 y3=>(((hF.below' (ext_below _ y2) (Nat.le_refl _)).below' (ext_below _ y3) (Nat.le_refl _)).cell e1 0 _ rfl).2
   have hq1:=fun y2=>((hF.below' (ext_below _ y2) (Nat.le_refl _)).cell e0 1 _ rfl).1
   have hr1:=fun y2=>((hF.below' (ext_below _ y2) (Nat.le_refl _)).cell e1 1 _ rfl).1
   have hs1:=fun y2 y3=>(((hF.below' (ext_below _ y2) (Nat.le_refl _)).below' (ext_below _ y3) (Nat.le_refl _)).cell e1 1 _ rfl).1
   have hw1:=fun y2 y3=>(((hF.below' (ext_below _ y2) (Nat.le_refl _)).below' (ext_below _ y3) (Nat.le_refl _)).cell e0 1 _ rfl).1
   have hz1:=fun y2=>((hF.below' (ext_below _ y2) (Nat.le_refl _)).cell e1 1 _ rfl).2
   have hy1:=fun y2 y3=>(((hF.below' (ext_below _ y2) (Nat.le_refl _)).below' (ext_below _ y3) (Nat.le_refl _)).cell e1 1 _ rfl).2
   have ca:=fun W (h : Below (ext w y).heap.size (ext w y) W)=>mkAll_any W GA KA gn kn gc kc gg kk (hRd.below h)
   have hG1:=tG.rd hF;have hK1:=tK.rd hF;have ct:=fun (hq : marksB gg kk = true) W (h : Below (ext w y).heap.size (ext w y) W)=>mkText_any W GA KA gn gc kn kc gg kk (hG1.below h) (hK1.below h) (marks_rows hq).1 (marks_rows hq).2 Om Om
   simp only at HV2;clear hG1 hK1 hRd HFd HV HR hn hlz csl
   cases hq : marksB gg kk
   ·
    have HE : Hid (mkR s.data.toList = none):=by unfold Hid;rw [HV2,hq];rfl
    rw [hq] at ca;clear HV2 HV3 hq ct;go_wp2_with ((go_at_call 151;((with_reducible refine ex (ca _ bL) ?_);intro x2)))
    refine bodyPost_ret (v:=.tuple #[.agg #[.slice none 0 0,.slice none 0 0],.bool false]) (by simp [results,Tryz.results104,go_sem,hr0,hr1,hs0,hs1,hz0,hz1,hy0,hy1]) rfl ?_;exact RetMkK.none_ HE.out bL
   ·
    have ct:=ct hq;rw [hq] at ca;obtain ⟨tx,htx⟩ : ∃ tx,marksS gg kk = tx:=⟨_,rfl⟩;rw [htx] at ct HV2;by_cases he : tx.toList = s.toList
    ·
     have HE : Hid (mkR s.data.toList = some (gg,kk)):=by unfold Hid;rw [HV2,hq,<- Lib.toList_data,<- Lib.toList_data,he];simp
     have heB : (tx.toList == s.toList) = true:=by rw [he];simp
     clear HV2 HV3 hq htx;go_wp2_with (first | (go_at_call 151;((with_reducible refine ex (ca _ bL) ?_);intro x2)) | (go_at_call 82;((with_reducible refine (ct _ bL).mono ?_);rintro e w' ⟨rfl,x3,rfl⟩)))
     refine bodyPost_ret (v:=.tuple #[.agg #[.slice GA gn gc,.slice KA kn kc],.bool true]) (by simp [results,Tryz.results104,go_sem,hr0,hr1,hs0,hs1,hz0,hz1,hy0,hy1]) rfl ?_;have G3:=(((hF.below' (ext_below _ x2) (Nat.le_refl _)).below' (ext_below _ x3) (Nat.le_refl _)).store e1 0 (.slice GA gn gc)).store (upd_same _ _ _) 1 (.slice KA kn kc);exact RetMkK.mk_ HE.out G3 (tG.of (by simp [upd]) (fun j=>by simp [upd])) (tK.of (by simp [upd]) (fun j=>by simp [upd])) (Nat.le_refl _) (by simp [World.setCell]) bL
    ·
     have HE : Hid (mkR s.data.toList = none):=by unfold Hid;rw [HV2,hq,<- Lib.toList_data,<- Lib.toList_data,beq_eq_false_iff_ne.2 he];rfl
     have heB : (tx.toList == s.toList) = false:=beq_eq_false_iff_ne.2 he;clear HV2 HV3 hq htx;go_wp2_with (first | (go_at_call 151;((with_reducible refine ex (ca _ bL) ?_);intro x2)) | (go_at_call 82;((with_reducible refine (ct _ bL).mono ?_);rintro e w' ⟨rfl,x3,rfl⟩)))
     refine bodyPost_ret (v:=.tuple #[.agg #[.slice none 0 0,.slice none 0 0],.bool false]) (by simp [results,Tryz.results104,go_sem,hr0,hr1,hs0,hs1,hz0,hz1,hy0,hy1]) rfl ?_;exact RetMkK.none_ HE.out bL
theorem behL_len : ∀ (n : Nat) (l : Str),(behL n l).length <= l.length
 | n,[]=>by simp [behL]
 | n,x :: r=>by
  rw [behL]
  split
  ·
   split
   ·
    simp
   ·
    have:=behL_len (n - 1) r;simp only [List.length_cons];omega
  ·
   have:=behL_len n r;simp only [List.length_cons];omega
theorem wHd_at (s : ByteArray) : wHd s.data.toList = ((spls 32 s)[0]?.getD ByteArray.empty).data.toList:=spl_head s
theorem spStep_at (st : St) (s : ByteArray) : spStep st s.data.toList =
  if ((spls 32 s)[0]?.getD ByteArray.empty).data.toList = wPro /\ (spls 32 s).length = 3 then { st with sk:=readL 6 ((spls 32 s)[1]?.getD ByteArray.empty).data.toList,fa:=readL 6 ((spls 32 s)[2]?.getD ByteArray.empty).data.toList }
  else if ((spls 32 s)[0]?.getD ByteArray.empty).data.toList = wSli then { st with sl:=dcP (behL 1 s.data.toList) }
  else if ((spls 32 s)[0]?.getD ByteArray.empty).data.toList = [103] ∨ ((spls 32 s)[0]?.getD ByteArray.empty).data.toList = [99] then { st with ms:=st.ms ++ (s.data.toList ++ [10]) }
  else if 0 < readL 6 ((spls 32 s)[0]?.getD ByteArray.empty).data.toList then { st with its:=st.its ++ [itP (behL 4 s.data.toList)] }
  else st:=by
 unfold spStep;rw [wHd_at,spls_at 32 s 1,spls_at 32 s 2,show (spl 32 s.data.toList).length = (spls 32 s).length by unfold spls;rw [List.length_map]]
theorem fold_snoc (ls : List Str) (k : Nat) (h : k < ls.length) (st : St) : (ls.take (k + 1)).foldl spStep st = spStep ((ls.take k).foldl spStep st) (ls[k]?.getD []):=by
 rw [take_succ_getD [] ls k h,List.foldl_append];rfl
def strs (lb : List ByteArray) : List Str:=lb.map (·.data.toList)
theorem sum_snoc (xs : List Str) (k : Nat) (h : k < xs.length) : ((xs.take (k + 1)).map (fun x=>x.length + 1)).sum = ((xs.take k).map (fun x=>x.length + 1)).sum + ((xs[k]?.getD []).length + 1):=by
 rw [take_succ_getD [] xs k h,List.map_append,List.sum_append];simp
def st0 : St:=⟨0,0,(0,0,0),[],[]⟩
theorem mkR_good {s : Str} {m : MM} (h : mkR s = some m) : marksB m.1 m.2 = true:=by
 unfold mkR at h
 split at h
 ·
  split at h
  ·
   rename_i hb
   injection h with h;rw [Bool.and_eq_true] at hb;rw [<- h];exact hb.1
  ·
   cases h
 ·
  cases h
theorem PfF.box {R : Fam} {I : OA} {n c : Nat} {its : List It} {GA : OA} {gn gc : Nat} {gg : List (List Int)} {KA : OA} {kn kc : Nat} {kk : List (List Int)} (h : PfF R I n c its GA gn gc gg KA kn kc kk) {j : Nat} {r : Rw} : PfF (upd R (9,j) r) I n c its GA gn gc gg KA kn kc kk :=
 ⟨h.1.of (upd_ne _ _ (by simp)) (fun i=>⟨upd_ne _ _ (by simp),upd_ne _ _ (by simp)⟩),h.2.1.of (upd_ne _ _ (by simp)) (fun i=>upd_ne _ _ (by simp)),h.2.2.of (upd_ne _ _ (by simp)) (fun i=>upd_ne _ _ (by simp))⟩
theorem itP_small (l : Str) : itSmall (itP l):=by
 unfold itP
 split
 ·
  rename_i h
  simp only [Bool.and_eq_true] at h;exact item_small h.1
 ·
  exact ⟨by simp [zIt],by simp [zIt],fun x hx=>by simp [zIt] at hx⟩
theorem ptRead_any (w : World) (A B : OA) (n m c d : Nat) (els : List El) (lims : List Int) (q0 q1 q2 q3 : Int) (hc : CodeR w A n B m els lims) (s : ByteArray) (hs : s.size <= 4000) :
  Calls Tryz.prog 53 #[.agg #[.slice A n c,.slice B m d,.int .i64 q0,.int .i64 q1,.int .i64 q2,.int .i64 q3],.string s] w (RetRd w (accP els lims q0 q1 q2 q3 s (spR s.data.toList))):=by
 have csl:=fun W=>l1Split_any s 10 10 rfl W Om
 have hlb:=spls_data 10 s;have hlz : ∀ x ∈ spls 10 s,x.size <= 4000:=fun x hx=>Nat.le_trans (spls_mem hx) hs
 have hsum:=spl_sum 10 s.data.toList;have hbd:=spls_bd 10 s;have HV : Hid (spRead s.data.toList = (strs (spls 10 s)).foldl spStep st0):=by unfold Hid spRead;show _ = ((spls 10 s).map (·.data.toList)).foldl spStep st0;rw [hlb];rfl
 rw [<- hlb,<- Lib.size_eq] at hsum;have hsum : ((strs (spls 10 s)).map (fun x=>x.length + 1)).sum = s.size + 1:=hsum;clear hlb;generalize spls 10 s = lb at *;have sz : ∀ (W : World) (o : Obj),(W.alloc o).heap.size = W.heap.size + 1:=fun W o=>by simp [go_sem]
 go_enter Tryz.func53,Tryz.ntmps53;go_wp2_with ((go_at_call 55;((with_reducible refine (csl _).mono ?_);rintro e w' ⟨A1,n1,c1,x1,rfl,rfl,o1⟩;have hl1:=o1.len)))
 have HL1:=Lib.hid hl1;have hn1 : n1 <= 4001:=Om;have F1:=(Fo.nil_ (b:=w.heap.size) (hi:=w.heap.size) (w:=w)).lit (j:=(9,3)) rfl (Nat.le_refl _) (Nat.le_refl _) 27 6 1 #[.slice A n c,.slice B m d,.int .i64 q0,.int .i64 q1,.int .i64 q2,.int .i64 q3] rfl (by simp [maxLen]) _ rfl;have F2:=F1.lit (j:=(9,1)) (by simp [upd,famN]) (by simp only [sz];omega) (by simp only [sz];omega) 35 6 1 #[.slice none 0 0,.slice none 0 0,.slice none 0 0,.int .i64 0,.int .i64 0,.int .i64 0] rfl (by simp [maxLen]) _ rfl;have F3:=F2.lit (j:=(9,0)) (by simp [upd,famN]) (by simp only [sz];omega) (by simp only [sz];omega) 35 6 1 #[.slice none 0 0,.slice none 0 0,.slice none 0 0,.int .i64 0,.int .i64 0,.int .i64 0] rfl (by simp [maxLen]) _ rfl;have F4:=F3.putF (j:=(0,0)) (r:=⟨61,3,none,0,0,[]⟩) (World.grownBy.refl _ _) Ow.nil_ (fun _ _=>.inl rfl) (Nat.le_refl _) (fun z hz=>by cases hz);have F5:=F4.addT (j:=(9,2)) (by simp [upd,famN]) (ext_below _ x1) (by simp only [sz];omega) (by simp only [sz];omega) (by simp only [sz];omega) o1;clear F1 F2 F3 F4 o1;simp only [sz] at F5
 go_loopw [9,10,11,13,14,15,16,23,29,47,59,74] (fun t9 t10 t11 _ _ _ _ i _ _ _ _ wr=>∃ (k : Nat) (R : Fam) (I : OA) (nI cI : Nat) (its : List It) (sk fa s1 s2 s3 : Int) (ms : ByteArray) (y : World),k <= n1 /\ i = .int .i64 k /\ t9 = .int .i64 sk /\ t10 = .int .i64 fa /\ t11 = .string ms /\ wr = ext w y /\ Fo w.heap.size wr.heap.size wr R /\ R (9,0) = ⟨35,6,some ⟨w.heap.size + 1 + 1,0,none⟩,1,1,[.slice I nI cI,.slice none 0 0,.slice none 0 0,.int .i64 s1,.int .i64 s2,.int .i64 s3]⟩ /\ R (9,1) = ⟨35,6,some ⟨w.heap.size + 1,0,none⟩,1,1,[.slice none 0 0,.slice none 0 0,.slice none 0 0,.int .i64 0,.int .i64 0,.int .i64 0]⟩ /\ R (9,2) = rowT A1 n1 c1 lb /\ R (9,3) = ⟨27,6,some ⟨w.heap.size,0,none⟩,1,1,[.slice A n c,.slice B m d,.int .i64 q0,.int .i64 q1,.int .i64 q2,.int .i64 q3]⟩ /\ ItF R I nI cI its /\ nI <= k /\ Hid (∀ it ∈ its,itSmall it) /\ Hid (ms.size <= (((strs lb).take k).map (fun x=>x.length + 1)).sum) /\ Hid (((strs lb).take k).foldl spStep st0 = ⟨sk,fa,(s1,s2,s3),ms.data.toList,its⟩)) (fun _ _ _ _ _ _ _ i _ _ _ _ _=>n1 - (intOf i).toNat)
 case atStart =>
  obtain ⟨y,hy⟩:=ext_ex (show Below w.heap.size w (ext (((w.alloc (.cells #[.slice A n c,.slice B m d,.int .i64 q0,.int .i64 q1,.int .i64 q2,.int .i64 q3] 27)).alloc (.cells #[.slice none 0 0,.slice none 0 0,.slice none 0 0,.int .i64 0,.int .i64 0,.int .i64 0] 35)).alloc (.cells #[.slice none 0 0,.slice none 0 0,.slice none 0 0,.int .i64 0,.int .i64 0,.int .i64 0] 35)) x1) from bqq);refine ⟨0,_,none,0,0,[],0,0,0,0,0,ByteArray.empty,y,Om,rfl,rfl,rfl,rfl,hy,F5,by simp [upd],by simp [upd],by simp [upd],by simp [upd],⟨rfl,⟨[],rfl,by simp [upd];rfl,fun j hj=>absurd hj Om⟩,fun j _=>by simp [upd,famN]⟩,Om,fun it h=>by simp at h,by simp [Hid],rfl⟩

 case round =>
  obtain ⟨k,R,I,nI,cI,its,sk,fa,s1,s2,s3,ms,y,hk,rfl,rfl,rfl,rfl,rfl,hF,e0,e1,e2,e3,hI,hnk,HZ,HS,HR⟩:=hrel;clear F5;by_cases hlt : k < n1
  ·
   obtain ⟨b1,rfl,hb1,hb2⟩:=(hF.ownT e2).form_ Om;have hck:=(hF.ownT e2).cell_ k hlt;have hll : (strs lb).length = n1:=by unfold strs;rw [List.length_map];exact HL1.out
   have hstep:=fold_snoc (strs lb) k (by rw [hll];exact hlt) st0;have hsm:=sum_snoc (strs lb) k (by rw [hll];exact hlt);have hst:=sum_take (xs:=strs lb) (k + 1);have hat : (strs lb)[k]?.getD [] = (lb[k]?.getD ByteArray.empty).data.toList:=by unfold strs;simp [show k < lb.length by rw [HL1.out];exact hlt]
   rw [HR.out,hat,spStep_at] at hstep;rw [hat,<- Lib.size_eq] at hsm;rw [hsum] at hst;have hmsz:=HS.out;have hlz2:=hlz _ (getD_mem ByteArray.empty lb k (by rw [HL1.out];exact hlt));have HS2 : ∀ z : Nat,z <= ms.size + ((lb[k]?.getD ByteArray.empty).size + 1) -> Hid (z <= (((strs lb).take (k + 1)).map (fun x=>x.length + 1)).sum):=fun z hz=>by unfold Hid;omega
   have hmb : ms.size + ((lb[k]?.getD ByteArray.empty).size + 1) <= 4001:=Om;clear hat hll hsm hst hmsz;generalize lb[k]?.getD ByteArray.empty = line at *;have csp:=fun W=>l1Split_any line 32 32 rfl W Om
   have hb1z:=behL_len 1 line.data.toList;have hb4z:=behL_len 4 line.data.toList;rw [<- Lib.size_eq] at hb1z hb4z;have cb1:=fun W=>ptBehind_any line 1 W Om Om Om
   have cb4:=fun W=>ptBehind_any line 4 W Om Om Om
   rw [show ((1 : Nat) : Int) = 1 from rfl] at cb1;rw [show ((4 : Nat) : Int) = 4 from rfl] at cb4;have cdc:=fun W=>dcParse_any (bs (behL 1 line.data.toList)) W (by rw [Lib.size_eq,bs_data];omega)
   have cit:=fun W=>itParse_any (bs (behL 4 line.data.toList)) W (by rw [Lib.size_eq,bs_data];omega)
   rw [bs_data] at cdc cit;have hpos:=spls_pos 32 line;have hbd:=spls_bd 32 line;have hwz : ∀ j,((spls 32 line)[j]?.getD ByteArray.empty).size <= 1099511627776:=fun j=>by
    by_cases hj : j < (spls 32 line).length
    ·
     exact Nat.le_trans (Nat.le_trans (spls_mem (getD_mem ByteArray.empty _ j hj)) hlz2) Om
    ·
     rw [List.getElem?_eq_none Om];show (0 : Nat) <= _;omega
   generalize spls 32 line = WL at *;have cr0:=fun W=>l1Read_any (WL[0]?.getD ByteArray.empty) W (hwz 0)
   have cr1:=fun W=>l1Read_any (WL[1]?.getD ByteArray.empty) W (hwz 1)
   have cr2:=fun W=>l1Read_any (WL[2]?.getD ByteArray.empty) W (hwz 2)
   clear hwz;generalize hw0 : WL[0]?.getD ByteArray.empty = w0 at *;have HW0:=Lib.hid hw0;clear hw0;generalize hw1 : WL[1]?.getD ByteArray.empty = w1 at *;have HW1:=Lib.hid hw1;clear hw1;generalize hw2 : WL[2]?.getD ByteArray.empty = w2 at *;have HW2:=Lib.hid hw2;clear hw2;by_cases hp : w0.data.toList = wPro /\ WL.length = 3
   ·
    rw [if_pos hp] at hstep;have H3:=Lib.hid hp.2;have hp0:=hp.1;have hp0T : w0.toList = [112,114,111,116,111,99,111,108]:=by rw [Lib.toList_data];exact hp0
    have HN:=Lib.hid hstep;clear hstep hp hp0;go_wp2_with (first | (go_at_call 55;((with_reducible refine (csp _).mono ?_);rintro e w' ⟨A2,n2,c2,x2,rfl,rfl,o2⟩;(obtain rfl : n2 = 3:=o2.len.symm.trans H3.out);(obtain ⟨b2,rfl,hb2,hb2'⟩:=o2.form_ Om);(have hc0:=o2.cell_ 0 Om);(rw [HW0.out] at hc0);(have hc1:=o2.cell_ 1 Om);(rw [HW1.out] at hc1);(have hc2:=o2.cell_ 2 Om);(rw [HW2.out] at hc2))) | (go_at_call 100;(with_reducible refine ep (cr1 _) ?_)) | (go_at_call 100;(with_reducible refine ep (cr2 _) ?_)))
    have G4:=hF.below' (ext_below _ x2) (Nat.le_refl _);obtain ⟨y3,hy3⟩:=ext_ex (show Below w.heap.size w (ext (ext w y) x2) from bqq);go_roundw
    case rel=>exact ⟨k + 1,R,I,nI,cI,its,_,_,s1,s2,s3,ms,y3,Om,by go_num,rfl,rfl,rfl,hy3,G4,e0,e1,e2,e3,hI,Om,HZ,(HS2 _ Om),HN.out⟩
    case measure=>simp [intOf];omega
   rw [if_neg hp] at hstep;by_cases hs0 : w0.data.toList = wSli
   ·
    rw [if_pos hs0] at hstep;have hs0T : w0.toList = [115,108,105,112,115]:=by rw [Lib.toList_data];exact hs0
    have hs0N0 : ¬ ([115,108,105,112,115] : Str) = [112,114,111,116,111,99,111,108]:=by decide
    have hs0M0 : (([115,108,105,112,115] : Str) == [112,114,111,116,111,99,111,108]) = false:=by decide
    have HN:=Lib.hid hstep;clear hstep hp hs0;unfold RetDc at cdc;generalize dcK (behL 1 line.data.toList) = dk at *;generalize dcP (behL 1 line.data.toList) = dv at *;have hq0:=fun y2 y3=>((hF.below' (ext_below _ y2) (Nat.le_refl _)).below' (ext_below _ y3) (Nat.le_refl _)).cell e0 0 _ rfl
    have hqv0:=fun y2 y3=>(hq0 y2 y3).1
    have hqf0:=fun y2 y3=>(hq0 y2 y3).2
    clear hq0;have hq1:=fun y2 y3=>((hF.below' (ext_below _ y2) (Nat.le_refl _)).below' (ext_below _ y3) (Nat.le_refl _)).cell e0 1 _ rfl
    have hqv1:=fun y2 y3=>(hq1 y2 y3).1
    have hqf1:=fun y2 y3=>(hq1 y2 y3).2
    clear hq1;have hq2:=fun y2 y3=>((hF.below' (ext_below _ y2) (Nat.le_refl _)).below' (ext_below _ y3) (Nat.le_refl _)).cell e0 2 _ rfl
    have hqv2:=fun y2 y3=>(hq2 y2 y3).1
    have hqf2:=fun y2 y3=>(hq2 y2 y3).2
    clear hq2;have hq3:=fun y2 y3=>((hF.below' (ext_below _ y2) (Nat.le_refl _)).below' (ext_below _ y3) (Nat.le_refl _)).cell e0 3 _ rfl
    have hqv3:=fun y2 y3=>(hq3 y2 y3).1
    have hqf3:=fun y2 y3=>(hq3 y2 y3).2
    clear hq3;have hq4:=fun y2 y3=>((hF.below' (ext_below _ y2) (Nat.le_refl _)).below' (ext_below _ y3) (Nat.le_refl _)).cell e0 4 _ rfl
    have hqv4:=fun y2 y3=>(hq4 y2 y3).1
    have hqf4:=fun y2 y3=>(hq4 y2 y3).2
    clear hq4;have hq5:=fun y2 y3=>((hF.below' (ext_below _ y2) (Nat.le_refl _)).below' (ext_below _ y3) (Nat.le_refl _)).cell e0 5 _ rfl
    have hqv5:=fun y2 y3=>(hq5 y2 y3).1
    have hqf5:=fun y2 y3=>(hq5 y2 y3).2
    clear hq5;go_wp2_with (first | (go_at_call 55;((with_reducible refine (csp _).mono ?_);rintro e w' ⟨A2,n2,c2,x2,rfl,rfl,o2⟩;(have hl2:=o2.len);(have h1n : 1 <= n2:=Om);(have h1I : (1 : Int) <= n2:=Om);(obtain ⟨b2,rfl,hb2,hb2'⟩:=o2.form_ Om);(have hc0:=o2.cell_ 0 Om);(rw [HW0.out] at hc0))) | (go_at_call 102;(with_reducible refine ep (cb1 _) ?_)) | (go_at_call 101;((with_reducible refine (cdc _).mono ?_);rintro e w' ⟨rfl,x3,rfl⟩)))
    have G4:=((((hF.below' (ext_below _ x2) (Nat.le_refl _)).below' (ext_below _ x3) (Nat.le_refl _)).store e0 3 (.int .i64 dv.1)).store (upd_same _ _ _) 4 (.int .i64 dv.2.1)).store (upd_same _ _ _) 5 (.int .i64 dv.2.2);have hsz4 : ((((ext (ext (ext w y) x2) x3).setCell ⟨w.heap.size + 1 + 1,3,none⟩ (.int .i64 dv.1)).setCell ⟨w.heap.size + 1 + 1,4,none⟩ (.int .i64 dv.2.1)).setCell ⟨w.heap.size + 1 + 1,5,none⟩ (.int .i64 dv.2.2)).heap.size = (ext (ext (ext w y) x2) x3).heap.size:=by simp [World.setCell]
    rw [<- hsz4] at G4;obtain ⟨y3,hy3⟩:=ext_ex (show Below w.heap.size w ((((ext (ext (ext w y) x2) x3).setCell ⟨w.heap.size + 1 + 1,3,none⟩ (.int .i64 dv.1)).setCell ⟨w.heap.size + 1 + 1,4,none⟩ (.int .i64 dv.2.1)).setCell ⟨w.heap.size + 1 + 1,5,none⟩ (.int .i64 dv.2.2)) from bqq);go_roundw
    case rel=>exact ⟨k + 1,_,I,nI,cI,its,sk,fa,_,_,_,ms,y3,Om,by go_num,rfl,rfl,rfl,hy3,G4,by simp [upd],by simp [upd,e1],by simp [upd,e2],by simp [upd,e3],hI.of (by simp [upd]) (fun j=>by simp [upd]),Om,HZ,(HS2 _ Om),HN.out⟩
    case measure=>simp [intOf];omega
   rw [if_neg hs0] at hstep;by_cases hg0 : w0.data.toList = [103]
   ·
    rw [if_pos (.inl hg0)] at hstep;have hg0T : w0.toList = [103]:=by rw [Lib.toList_data];exact hg0
    have hg0N0 : ¬ ([103] : Str) = [112,114,111,116,111,99,111,108]:=by decide
    have hg0M0 : (([103] : Str) == [112,114,111,116,111,99,111,108]) = false:=by decide
    have hg0N1 : ¬ ([103] : Str) = [115,108,105,112,115]:=by decide
    have hg0M1 : (([103] : Str) == [115,108,105,112,115]) = false:=by decide
    have HN:=Lib.hid hstep;clear hstep hp hs0 hg0;have ze : ByteArray.size (⟨#[10]⟩ : ByteArray) = 1:=rfl;have hf1 : Fit (line ++ (⟨#[10]⟩ : ByteArray)):=ft;have hf2 : Fit (ms ++ (line ++ (⟨#[10]⟩ : ByteArray))):=ft;have hms2 : (ms ++ (line ++ (⟨#[10]⟩ : ByteArray))).size <= ms.size + (line.size + 1):=by simp only [ByteArray.size_append];omega
    have HS3:=HS2 _ hms2;go_wp2_with (go_at_call 55;((with_reducible refine (csp _).mono ?_);rintro e w' ⟨A2,n2,c2,x2,rfl,rfl,o2⟩;(have hl2:=o2.len);(have h1n : 1 <= n2:=Om);(have h1I : (1 : Int) <= n2:=Om);(obtain ⟨b2,rfl,hb2,hb2'⟩:=o2.form_ Om);(have hc0:=o2.cell_ 0 Om);(rw [HW0.out] at hc0)))
    have G4:=hF.below' (ext_below _ x2) (Nat.le_refl _);obtain ⟨y3,hy3⟩:=ext_ex (show Below w.heap.size w (ext (ext w y) x2) from bqq);go_roundw
    case rel=>exact ⟨k + 1,R,I,nI,cI,its,sk,fa,s1,s2,s3,_,y3,Om,by go_num,rfl,rfl,rfl,hy3,G4,e0,e1,e2,e3,hI,Om,HZ,HS3,HN.out⟩
    case measure=>simp [intOf];omega
   by_cases hC0 : w0.data.toList = [99]
   ·
    rw [if_pos (.inr hC0)] at hstep;have hC0T : w0.toList = [99]:=by rw [Lib.toList_data];exact hC0
    have hC0N0 : ¬ ([99] : Str) = [112,114,111,116,111,99,111,108]:=by decide
    have hC0M0 : (([99] : Str) == [112,114,111,116,111,99,111,108]) = false:=by decide
    have hC0N1 : ¬ ([99] : Str) = [115,108,105,112,115]:=by decide
    have hC0M1 : (([99] : Str) == [115,108,105,112,115]) = false:=by decide
    have hC0N2 : ¬ ([99] : Str) = [103]:=by decide
    have hC0M2 : (([99] : Str) == [103]) = false:=by decide
    have HN:=Lib.hid hstep;clear hstep hp hs0 hC0 hg0;have ze : ByteArray.size (⟨#[10]⟩ : ByteArray) = 1:=rfl;have hf1 : Fit (line ++ (⟨#[10]⟩ : ByteArray)):=ft;have hf2 : Fit (ms ++ (line ++ (⟨#[10]⟩ : ByteArray))):=ft;have hms2 : (ms ++ (line ++ (⟨#[10]⟩ : ByteArray))).size <= ms.size + (line.size + 1):=by simp only [ByteArray.size_append];omega
    have HS3:=HS2 _ hms2;go_wp2_with (go_at_call 55;((with_reducible refine (csp _).mono ?_);rintro e w' ⟨A2,n2,c2,x2,rfl,rfl,o2⟩;(have hl2:=o2.len);(have h1n : 1 <= n2:=Om);(have h1I : (1 : Int) <= n2:=Om);(obtain ⟨b2,rfl,hb2,hb2'⟩:=o2.form_ Om);(have hc0:=o2.cell_ 0 Om);(rw [HW0.out] at hc0)))
    have G4:=hF.below' (ext_below _ x2) (Nat.le_refl _);obtain ⟨y3,hy3⟩:=ext_ex (show Below w.heap.size w (ext (ext w y) x2) from bqq);go_roundw
    case rel=>exact ⟨k + 1,R,I,nI,cI,its,sk,fa,s1,s2,s3,_,y3,Om,by go_num,rfl,rfl,rfl,hy3,G4,e0,e1,e2,e3,hI,Om,HZ,HS3,HN.out⟩
    case measure=>simp [intOf];omega
   rw [if_neg (by rintro (h | h);exact hg0 h;exact hC0 h)] at hstep;obtain ⟨v,hv⟩ : ∃ v,readL 6 w0.data.toList = v:=⟨_,rfl⟩;rw [hv] at cr0 hstep;have hs0T : ¬ w0.toList = [115,108,105,112,115]:=by rw [Lib.toList_data];exact hs0
   have hs0B : (w0.toList == [115,108,105,112,115]) = false:=beq_eq_false_iff_ne.2 hs0T;have hg0T : ¬ w0.toList = [103]:=by rw [Lib.toList_data];exact hg0
   have hg0B : (w0.toList == [103]) = false:=beq_eq_false_iff_ne.2 hg0T;have hC0T : ¬ w0.toList = [99]:=by rw [Lib.toList_data];exact hC0
   have hC0B : (w0.toList == [99]) = false:=beq_eq_false_iff_ne.2 hC0T;by_cases hv0 : 0 < v
   ·
    have hp0 : ¬ w0.data.toList = wPro:=fun e=>by rw [e,show readL 6 wPro = -1 by decide] at hv;omega
    have hp0T : ¬ w0.toList = [112,114,111,116,111,99,111,108]:=by rw [Lib.toList_data];exact hp0
    have hp0B : (w0.toList == [112,114,111,116,111,99,111,108]) = false:=beq_eq_false_iff_ne.2 hp0T;rw [if_pos hv0,itP_po] at hstep;have hsml:=itP_small (behL 4 line.data.toList);rw [itP_po] at hsml;unfold RetItK at cit;generalize (itPo (behL 4 line.data.toList)).isSome = ok at *;generalize (itPo (behL 4 line.data.toList)).getD zIt = it at *;have HN:=Lib.hid hstep;clear hstep hp hp0 hs0 hg0 hC0 hv;obtain ⟨xs,eI,_⟩:=hI.push it (none) 0 0 none 0 0;have hOwn:=hF.at_ eI;have hz:=hI.2.2 nI (Nat.le_refl _);have hkb : nI <= 1099511627776:=Om;have hg9 : ∀ y2 y3,w.heap.size + 1 + 1 < (ext (ext (ext w y) y2) y3).heap.size:=fun y2 y3=>Nat.lt_of_lt_of_le (Ow.blk (hF.at_ e0) rfl).2 (Nat.le_trans (ext_le _ y2) (ext_le _ y3))
    have hq0:=fun y2 y3=>(((hF.below' (ext_below _ y2) (Nat.le_refl _)).below' (ext_below _ y3) (Nat.le_refl _)).cell e0 0 _ rfl).1
    go_wp2_with (first | (go_at_call 55;((with_reducible refine (csp _).mono ?_);rintro e w' ⟨A2,n2,c2,x2,rfl,rfl,o2⟩;(have hl2:=o2.len);(have h1n : 1 <= n2:=Om);(have h1I : (1 : Int) <= n2:=Om);(obtain ⟨b2,rfl,hb2,hb2'⟩:=o2.form_ Om);(have hc0:=o2.cell_ 0 Om);(rw [HW0.out] at hc0))) | (go_at_call 100;(with_reducible refine ep (cr0 _) ?_)) | (go_at_call 102;(with_reducible refine ep (cb4 _) ?_)) | (go_at_call 103;((with_reducible refine (cit _).mono ?_);rintro e w' ⟨NA,nn,nc,MA,mn,mc,x3,rfl,rfl,oN,oM,hne⟩)) | (at_builtin;(refine wpl_push_item w _ _ _ _ ?_ _ ?_ rfl _ _ rfl I nI cI _ rfl (Nat.le_refl _) ?_ hOwn ?_ ?_ rfl hkb ?_);(focus (exact ⟨rfl,rfl,rfl⟩));(focus (first | rfl | (simp;done)));(focus (refine szOf ?_;exact bL));exact bL;exact bL;intro I' c' y' ho' hg' hd';have G1:=hF.below' (ext_below _ x2) (Nat.le_refl _);have G2:=(G1.add2 (j:=(3,nI)) (i:=(4,nI)) (r:=rowT NA nn nc it.1) (r2:=rowI MA mn mc it.2.1) (by simp) hz.1 hz.2 (ext_below _ x3) (Nat.le_refl _) (Nat.le_refl _) (Nat.le_trans (ext_le w y) (ext_le _ x2)) oN oM hne).below' (bAlloc (Below.refl _ _) (.cells #[.slice NA nn nc,.slice MA mn mc,.bool it.2.2] 61)) (Nat.le_refl _);have G3:=G2.grew (j:=(0,0)) (by rw [upd_ne _ _ (by simp),upd_ne _ _ (by simp)];exact eI) hg' ho' hd' (Nat.le_refl _);have e03 : (upd (upd (upd R (3,nI) (rowT NA nn nc it.1)) (4,nI) (rowI MA mn mc it.2.1)) (0,0) ⟨61,3,I',nI + 1,c',xs ++ [.slice NA nn nc,.slice MA mn mc,.bool it.2.2]⟩) (9,0) = R (9,0):=(by simp [upd]);have e03:=e03.trans e0;(obtain ⟨hk0,hkf0⟩:=G3.cell e03 0 _ rfl)))
    have G4:=G3.store e03 0 (.slice I' (nI + 1) c');have hsz4 : ((ext w y').setCell ⟨w.heap.size + 1 + 1,0,none⟩ (.slice I' (nI + 1) c')).heap.size = (ext w y').heap.size:=by simp [World.setCell]
    rw [<- hsz4] at G4;obtain ⟨y3,hy3⟩:=ext_ex (show Below w.heap.size w ((ext w y').setCell ⟨w.heap.size + 1 + 1,0,none⟩ (.slice I' (nI + 1) c')) from bqq);obtain ⟨xs2,eI2,hpush⟩:=hI.push it NA nn nc MA mn mc;have hxs : xs2 = xs:=by rw [eI] at eI2;injection eI2 with _ _ _ _ _ h;exact h.symm
    subst hxs;have HZ2 : Hid (∀ x ∈ its ++ [it],itSmall x):=fun x hx=>(List.mem_append.1 hx).elim (HZ.out x) (fun h=>by simp at h;subst h;exact hsml)
    go_roundw
    case rel=>exact ⟨k + 1,_,I',nI + 1,c',its ++ [it],sk,fa,s1,s2,s3,ms,y3,Om,by go_num,rfl,rfl,rfl,hy3,G4,by simp [upd],by simp [upd,e1],by simp [upd,e2],by simp [upd,e3],(hpush I' c').of (by simp [upd]) (fun j=>by simp [upd]),Om,HZ2,(HS2 _ Om),HN.out⟩
    case measure=>simp [intOf];omega
   ·
    rw [if_neg hv0] at hstep;have HN:=Lib.hid hstep;clear hstep hs0 hg0 hC0;by_cases hp0 : w0.data.toList = wPro
    ·
     have H3 : Hid (¬ WL.length = 3):=fun e=>hp ⟨hp0,e⟩
     rw [show readL 6 w0.data.toList = -1 by rw [hp0];decide] at hv;subst hv;have hp0T : w0.toList = [112,114,111,116,111,99,111,108]:=by rw [Lib.toList_data];exact hp0
     have hp0N0 : ¬ ([112,114,111,116,111,99,111,108] : Str) = [115,108,105,112,115]:=by decide
     have hp0M0 : (([112,114,111,116,111,99,111,108] : Str) == [115,108,105,112,115]) = false:=by decide
     have hp0N1 : ¬ ([112,114,111,116,111,99,111,108] : Str) = [103]:=by decide
     have hp0M1 : (([112,114,111,116,111,99,111,108] : Str) == [103]) = false:=by decide
     have hp0N2 : ¬ ([112,114,111,116,111,99,111,108] : Str) = [99]:=by decide
     have hp0M2 : (([112,114,111,116,111,99,111,108] : Str) == [99]) = false:=by decide
     clear hp hp0 hs0T hg0T hC0T hs0B hg0B hC0B;go_wp2_with (first | (go_at_call 55;((with_reducible refine (csp _).mono ?_);rintro e w' ⟨A2,n2,c2,x2,rfl,rfl,o2⟩;(have hl2:=o2.len);(have h1n : 1 <= n2:=Om);(have h1I : (1 : Int) <= n2:=Om);(have h3I : ¬ (n2 : Int) = 3:=by have:=H3.out;omega);(obtain ⟨b2,rfl,hb2,hb2'⟩:=o2.form_ Om);(have hc0:=o2.cell_ 0 Om);(rw [HW0.out] at hc0))) | (go_at_call 100;(with_reducible refine ep (cr0 _) ?_)))
     have G4:=hF.below' (ext_below _ x2) (Nat.le_refl _);obtain ⟨y3,hy3⟩:=ext_ex (show Below w.heap.size w (ext (ext w y) x2) from bqq);go_roundw
     case rel=>exact ⟨k + 1,R,I,nI,cI,its,sk,fa,s1,s2,s3,ms,y3,Om,by go_num,rfl,rfl,rfl,hy3,G4,e0,e1,e2,e3,hI,Om,HZ,(HS2 _ Om),HN.out⟩
     case measure=>simp [intOf];omega
    ·
     have hpF:=hp0;have hp0T : ¬ w0.toList = [112,114,111,116,111,99,111,108]:=by rw [Lib.toList_data];exact hp0
     have hp0B : (w0.toList == [112,114,111,116,111,99,111,108]) = false:=beq_eq_false_iff_ne.2 hp0T;clear hp hp0 hpF hv;go_wp2_with (first | (go_at_call 55;((with_reducible refine (csp _).mono ?_);rintro e w' ⟨A2,n2,c2,x2,rfl,rfl,o2⟩;(have hl2:=o2.len);(have h1n : 1 <= n2:=Om);(have h1I : (1 : Int) <= n2:=Om);(obtain ⟨b2,rfl,hb2,hb2'⟩:=o2.form_ Om);(have hc0:=o2.cell_ 0 Om);(rw [HW0.out] at hc0))) | (go_at_call 100;(with_reducible refine ep (cr0 _) ?_)))
     have G4:=hF.below' (ext_below _ x2) (Nat.le_refl _);obtain ⟨y3,hy3⟩:=ext_ex (show Below w.heap.size w (ext (ext w y) x2) from bqq);go_roundw
     case rel=>exact ⟨k + 1,R,I,nI,cI,its,sk,fa,s1,s2,s3,ms,y3,Om,by go_num,rfl,rfl,rfl,hy3,G4,e0,e1,e2,e3,hI,Om,HZ,(HS2 _ Om),HN.out⟩
     case measure=>simp [intOf];omega
  ·
   obtain rfl : k = n1:=Om;have HFd:=HR.out;rw [List.take_of_length_le (by unfold strs;rw [List.length_map,HL1.out];exact Nat.le_refl _)] at HFd;have HV2:=HV.out;rw [HFd] at HV2;have hsp : spR s.data.toList = match mkR ms.data.toList with | none=>none | some m=>some (its,m,(s1,s2,s3),sk,fa):=by unfold spR;rw [HV2];rfl
   have hst:=sum_take (xs:=strs lb) k;have hmsz:=HS.out;rw [hsum] at hst;have cm:=fun W=>spParseMarks_any ms W Om
   clear hst hmsz HS HFd HV2 HV HR hsum hlz;have hp2:=(hF.at_ e0);have hg0 : w.heap.size + 1 + 1 < (ext w y).heap.size:=(Ow.blk hp2 rfl).2;clear hp2;obtain ⟨om,hmk⟩ : ∃ om,mkR ms.data.toList = om:=⟨_,rfl⟩;rw [hmk] at cm hsp;have hMs:=fun m (h : om = some m)=>mkR_good (hmk.trans h)
   have HSP:=Lib.hid hsp;clear hsp hmk;unfold RetMkK at cm;have hE9 : ∀ x,w.heap.size + 1 + 1 < (ext (ext w y) x).heap.size:=fun x=>Nat.lt_of_lt_of_le hg0 (ext_le _ x)
   have hq1:=fun y2=>((hF.below' (ext_below _ y2) (Nat.le_refl _)).cell e0 1 _ rfl).1
   have hqf1:=fun y2=>((hF.below' (ext_below _ y2) (Nat.le_refl _)).cell e0 1 _ rfl).2
   have hq2:=fun y2=>((hF.below' (ext_below _ y2) (Nat.le_refl _)).cell e0 2 _ rfl).1
   have hqf2:=fun y2=>((hF.below' (ext_below _ y2) (Nat.le_refl _)).cell e0 2 _ rfl).2
   go_upto_region 21 with ((go_at_call 104;((with_reducible refine (cm _).mono ?_);rintro e w' ⟨GA,gn,gc,KA,kn,kc,x4,R4,rfl,rfl,F4,g4,k4⟩)));have hBw : Below w.heap.size w ((((ext (ext w y) x4).setCell ⟨w.heap.size + 1 + 1,1,none⟩ (.slice GA gn gc)).setCell ⟨w.heap.size + 1 + 1,2,none⟩ (.slice KA kn kc)).alloc (.cells #[.slice GA gn gc,.slice KA kn kc] 31)):=bqq;have hWs : (ext (ext w y) x4).heap.size <= ((((ext (ext w y) x4).setCell ⟨w.heap.size + 1 + 1,1,none⟩ (.slice GA gn gc)).setCell ⟨w.heap.size + 1 + 1,2,none⟩ (.slice KA kn kc)).alloc (.cells #[.slice GA gn gc,.slice KA kn kc] 31)).heap.size:=Nat.le_trans (Nat.le_of_eq (show (ext (ext w y) x4).heap.size = (((ext (ext w y) x4).setCell ⟨w.heap.size + 1 + 1,1,none⟩ (.slice GA gn gc)).setCell ⟨w.heap.size + 1 + 1,2,none⟩ (.slice KA kn kc)).heap.size from by simp [World.setCell])) (szOf (bAlloc (Below.refl _ _) _));have hM : ∃ M,Fo w.heap.size (ext (ext w y) x4).heap.size ((((ext (ext w y) x4).setCell ⟨w.heap.size + 1 + 1,1,none⟩ (.slice GA gn gc)).setCell ⟨w.heap.size + 1 + 1,2,none⟩ (.slice KA kn kc)).alloc (.cells #[.slice GA gn gc,.slice KA kn kc] 31)) M /\ M (9,0) = ⟨35,6,some ⟨w.heap.size + 1 + 1,0,none⟩,1,1,[.slice I nI cI,.slice GA gn gc,.slice KA kn kc,.int .i64 s1,.int .i64 s2,.int .i64 s3]⟩ /\ M (9,1) = ⟨35,6,some ⟨w.heap.size + 1,0,none⟩,1,1,[.slice none 0 0,.slice none 0 0,.slice none 0 0,.int .i64 0,.int .i64 0,.int .i64 0]⟩ /\ M (9,3) = ⟨27,6,some ⟨w.heap.size,0,none⟩,1,1,[.slice A n c,.slice B m d,.int .i64 q0,.int .i64 q1,.int .i64 q2,.int .i64 q3]⟩ /\ PfF M I nI cI its GA gn gc (om.getD ([],[])).1 KA kn kc (om.getD ([],[])).2:=by
    have Fp:=(((hF.below (ext_below (ext w y) x4)).store e0 1 (.slice GA gn gc)).store (upd_same _ _ _) 2 (.slice KA kn kc)).below (bAlloc (Below.refl _ _) (.cells #[.slice GA gn gc,.slice KA kn kc] 31));have Fm:=((F4.setLow (k:=1) (v:=.slice GA gn gc) hg0).setLow (k:=2) (v:=.slice KA kn kc) hg0).below (bAlloc (Below.refl _ _) (.cells #[.slice GA gn gc,.slice KA kn kc] 31));exact ⟨_,Fo.merge (fun i=>i.1 == 0 || (i.1 == 3 || (i.1 == 4 || i.1 == 9))) Fp Fm (ext_le w y) (ext_le _ x4),by simp [upd],by simp [upd,e1],by simp [upd,e3],hI.of (by simp [upd]) (fun j=>by simp [upd]),g4.of (by simp) (fun j=>by simp),k4.of (by simp) (fun j=>by simp)⟩
   clear F4 g4 k4 hF hI e0 e1 e2 e3 cm hg0 hE9 hq1 hq2 hqf1 hqf2;obtain ⟨M,FM,m0,m1,m3,hPf⟩:=hM;generalize hWBe : ((((ext (ext w y) x4).setCell ⟨w.heap.size + 1 + 1,1,none⟩ (.slice GA gn gc)).setCell ⟨w.heap.size + 1 + 1,2,none⟩ (.slice KA kn kc)).alloc (.cells #[.slice GA gn gc,.slice KA kn kc] 31)) = WB at FM hBw hWs ⊢;generalize (ext (ext w y) x4).heap.size = hiE at FM hWs ⊢;clear hWBe;have l0 : w.heap.size < WB.heap.size:=(Ow.blk (FM.at_ m3) rfl).2;have l1 : w.heap.size + 1 < WB.heap.size:=(Ow.blk (FM.at_ m1) rfl).2;have l2 : w.heap.size + 1 + 1 < WB.heap.size:=(Ow.blk (FM.at_ m0) rfl).2;have y0:=(FM.cell m3 0 _ rfl).1;have yu0:=fun u=>((ext_below WB u).cell (p:=⟨w.heap.size,0,none⟩) l0).trans y0
   have yv0:=fun u v=>((ext_below (ext WB u) v).cell (p:=⟨w.heap.size,0,none⟩) (Nat.lt_of_lt_of_le l0 (ext_le WB u))).trans (yu0 u)
   have r0:=(FM.cell m0 0 _ rfl).1;have ru0:=fun u=>((ext_below WB u).cell (p:=⟨w.heap.size + 1 + 1,0,none⟩) l2).trans r0
   have rv0:=fun u v=>((ext_below (ext WB u) v).cell (p:=⟨w.heap.size + 1 + 1,0,none⟩) (Nat.lt_of_lt_of_le l2 (ext_le WB u))).trans (ru0 u)
   have z0:=(FM.cell m1 0 _ rfl).1;have zu0:=fun u=>((ext_below WB u).cell (p:=⟨w.heap.size + 1,0,none⟩) l1).trans z0
   have zv0:=fun u v=>((ext_below (ext WB u) v).cell (p:=⟨w.heap.size + 1,0,none⟩) (Nat.lt_of_lt_of_le l1 (ext_le WB u))).trans (zu0 u)
   have f0:=(FM.cell m1 0 _ rfl).2;have fu0:=fun u=>((ext_below WB u).frozen (p:=⟨w.heap.size + 1,0,none⟩) l1).trans f0
   have fv0:=fun u v=>((ext_below (ext WB u) v).frozen (p:=⟨w.heap.size + 1,0,none⟩) (Nat.lt_of_lt_of_le l1 (ext_le WB u))).trans (fu0 u)
   have y1:=(FM.cell m3 1 _ rfl).1;have yu1:=fun u=>((ext_below WB u).cell (p:=⟨w.heap.size,1,none⟩) l0).trans y1
   have yv1:=fun u v=>((ext_below (ext WB u) v).cell (p:=⟨w.heap.size,1,none⟩) (Nat.lt_of_lt_of_le l0 (ext_le WB u))).trans (yu1 u)
   have r1:=(FM.cell m0 1 _ rfl).1;have ru1:=fun u=>((ext_below WB u).cell (p:=⟨w.heap.size + 1 + 1,1,none⟩) l2).trans r1
   have rv1:=fun u v=>((ext_below (ext WB u) v).cell (p:=⟨w.heap.size + 1 + 1,1,none⟩) (Nat.lt_of_lt_of_le l2 (ext_le WB u))).trans (ru1 u)
   have z1:=(FM.cell m1 1 _ rfl).1;have zu1:=fun u=>((ext_below WB u).cell (p:=⟨w.heap.size + 1,1,none⟩) l1).trans z1
   have zv1:=fun u v=>((ext_below (ext WB u) v).cell (p:=⟨w.heap.size + 1,1,none⟩) (Nat.lt_of_lt_of_le l1 (ext_le WB u))).trans (zu1 u)
   have f1:=(FM.cell m1 1 _ rfl).2;have fu1:=fun u=>((ext_below WB u).frozen (p:=⟨w.heap.size + 1,1,none⟩) l1).trans f1
   have fv1:=fun u v=>((ext_below (ext WB u) v).frozen (p:=⟨w.heap.size + 1,1,none⟩) (Nat.lt_of_lt_of_le l1 (ext_le WB u))).trans (fu1 u)
   have y2:=(FM.cell m3 2 _ rfl).1;have yu2:=fun u=>((ext_below WB u).cell (p:=⟨w.heap.size,2,none⟩) l0).trans y2
   have yv2:=fun u v=>((ext_below (ext WB u) v).cell (p:=⟨w.heap.size,2,none⟩) (Nat.lt_of_lt_of_le l0 (ext_le WB u))).trans (yu2 u)
   have r2:=(FM.cell m0 2 _ rfl).1;have ru2:=fun u=>((ext_below WB u).cell (p:=⟨w.heap.size + 1 + 1,2,none⟩) l2).trans r2
   have rv2:=fun u v=>((ext_below (ext WB u) v).cell (p:=⟨w.heap.size + 1 + 1,2,none⟩) (Nat.lt_of_lt_of_le l2 (ext_le WB u))).trans (ru2 u)
   have z2:=(FM.cell m1 2 _ rfl).1;have zu2:=fun u=>((ext_below WB u).cell (p:=⟨w.heap.size + 1,2,none⟩) l1).trans z2
   have zv2:=fun u v=>((ext_below (ext WB u) v).cell (p:=⟨w.heap.size + 1,2,none⟩) (Nat.lt_of_lt_of_le l1 (ext_le WB u))).trans (zu2 u)
   have f2:=(FM.cell m1 2 _ rfl).2;have fu2:=fun u=>((ext_below WB u).frozen (p:=⟨w.heap.size + 1,2,none⟩) l1).trans f2
   have fv2:=fun u v=>((ext_below (ext WB u) v).frozen (p:=⟨w.heap.size + 1,2,none⟩) (Nat.lt_of_lt_of_le l1 (ext_le WB u))).trans (fu2 u)
   have y3:=(FM.cell m3 3 _ rfl).1;have yu3:=fun u=>((ext_below WB u).cell (p:=⟨w.heap.size,3,none⟩) l0).trans y3
   have yv3:=fun u v=>((ext_below (ext WB u) v).cell (p:=⟨w.heap.size,3,none⟩) (Nat.lt_of_lt_of_le l0 (ext_le WB u))).trans (yu3 u)
   have r3:=(FM.cell m0 3 _ rfl).1;have ru3:=fun u=>((ext_below WB u).cell (p:=⟨w.heap.size + 1 + 1,3,none⟩) l2).trans r3
   have rv3:=fun u v=>((ext_below (ext WB u) v).cell (p:=⟨w.heap.size + 1 + 1,3,none⟩) (Nat.lt_of_lt_of_le l2 (ext_le WB u))).trans (ru3 u)
   have z3:=(FM.cell m1 3 _ rfl).1;have zu3:=fun u=>((ext_below WB u).cell (p:=⟨w.heap.size + 1,3,none⟩) l1).trans z3
   have zv3:=fun u v=>((ext_below (ext WB u) v).cell (p:=⟨w.heap.size + 1,3,none⟩) (Nat.lt_of_lt_of_le l1 (ext_le WB u))).trans (zu3 u)
   have f3:=(FM.cell m1 3 _ rfl).2;have fu3:=fun u=>((ext_below WB u).frozen (p:=⟨w.heap.size + 1,3,none⟩) l1).trans f3
   have fv3:=fun u v=>((ext_below (ext WB u) v).frozen (p:=⟨w.heap.size + 1,3,none⟩) (Nat.lt_of_lt_of_le l1 (ext_le WB u))).trans (fu3 u)
   have y4:=(FM.cell m3 4 _ rfl).1;have yu4:=fun u=>((ext_below WB u).cell (p:=⟨w.heap.size,4,none⟩) l0).trans y4
   have yv4:=fun u v=>((ext_below (ext WB u) v).cell (p:=⟨w.heap.size,4,none⟩) (Nat.lt_of_lt_of_le l0 (ext_le WB u))).trans (yu4 u)
   have r4:=(FM.cell m0 4 _ rfl).1;have ru4:=fun u=>((ext_below WB u).cell (p:=⟨w.heap.size + 1 + 1,4,none⟩) l2).trans r4
   have rv4:=fun u v=>((ext_below (ext WB u) v).cell (p:=⟨w.heap.size + 1 + 1,4,none⟩) (Nat.lt_of_lt_of_le l2 (ext_le WB u))).trans (ru4 u)
   have z4:=(FM.cell m1 4 _ rfl).1;have zu4:=fun u=>((ext_below WB u).cell (p:=⟨w.heap.size + 1,4,none⟩) l1).trans z4
   have zv4:=fun u v=>((ext_below (ext WB u) v).cell (p:=⟨w.heap.size + 1,4,none⟩) (Nat.lt_of_lt_of_le l1 (ext_le WB u))).trans (zu4 u)
   have f4:=(FM.cell m1 4 _ rfl).2;have fu4:=fun u=>((ext_below WB u).frozen (p:=⟨w.heap.size + 1,4,none⟩) l1).trans f4
   have fv4:=fun u v=>((ext_below (ext WB u) v).frozen (p:=⟨w.heap.size + 1,4,none⟩) (Nat.lt_of_lt_of_le l1 (ext_le WB u))).trans (fu4 u)
   have y5:=(FM.cell m3 5 _ rfl).1;have yu5:=fun u=>((ext_below WB u).cell (p:=⟨w.heap.size,5,none⟩) l0).trans y5
   have yv5:=fun u v=>((ext_below (ext WB u) v).cell (p:=⟨w.heap.size,5,none⟩) (Nat.lt_of_lt_of_le l0 (ext_le WB u))).trans (yu5 u)
   have r5:=(FM.cell m0 5 _ rfl).1;have ru5:=fun u=>((ext_below WB u).cell (p:=⟨w.heap.size + 1 + 1,5,none⟩) l2).trans r5
   have rv5:=fun u v=>((ext_below (ext WB u) v).cell (p:=⟨w.heap.size + 1 + 1,5,none⟩) (Nat.lt_of_lt_of_le l2 (ext_le WB u))).trans (ru5 u)
   have z5:=(FM.cell m1 5 _ rfl).1;have zu5:=fun u=>((ext_below WB u).cell (p:=⟨w.heap.size + 1,5,none⟩) l1).trans z5
   have zv5:=fun u v=>((ext_below (ext WB u) v).cell (p:=⟨w.heap.size + 1,5,none⟩) (Nat.lt_of_lt_of_le l1 (ext_le WB u))).trans (zu5 u)
   have f5:=(FM.cell m1 5 _ rfl).2;have fu5:=fun u=>((ext_below WB u).frozen (p:=⟨w.heap.size + 1,5,none⟩) l1).trans f5
   have fv5:=fun u v=>((ext_below (ext WB u) v).frozen (p:=⟨w.heap.size + 1,5,none⟩) (Nat.lt_of_lt_of_le l1 (ext_le WB u))).trans (fu5 u)
   cases om with
   | none =>
    have HE : Hid (accP els lims q0 q1 q2 q3 s (spR s.data.toList) = none):=by unfold Hid;rw [HSP.out];rfl
    clear HSP hMs hc csl HZ;simp only [Option.isSome_none];go_wp2;refine bodyPost_ret (v:=.tuple #[.agg #[.slice none 0 0,.slice none 0 0,.slice none 0 0,.int .i64 0,.int .i64 0,.int .i64 0],.int .i64 0,.int .i64 0,.bool false]) (by simp [results,Tryz.results53,go_sem,z0,z1,z2,z3,z4,z5]) rfl ?_;exact RetRd.none_ HE.out bqq
   | some mm =>
    obtain ⟨gg,kk⟩:=mm;have HA : Hid (accP els lims q0 q1 q2 q3 s (spR s.data.toList) = if accB els lims q0 q1 q2 q3 s (its,(gg,kk),(s1,s2,s3),sk,fa) then some (its,(gg,kk),(s1,s2,s3),sk,fa) else none):=by unfold Hid;rw [HSP.out];rfl
    have hMs:=hMs _ rfl;simp only [Option.isSome_some,Option.getD_some] at hPf hMs ⊢;clear HSP;have hnl:=hPf.1.1;have hgl:=hPf.2.1.1;have hkl:=hPf.2.2.1;have hmo:=marksB_of hMs;have hIr : ItsR WB I nI cI its:=⟨hPf.1.rd FM,Om,hPf.1.cap FM,HZ.out⟩;have hMr : RdMk WB GA gn KA kn gg kk:=RdMk.of_len (hPf.2.1.rd FM) (hPf.2.2.rd FM) Om Om (marks_rows9 hMs);have hMg:=hPf.2.1.rd FM;have cC:=fun W (h : Below WB.heap.size WB W)=>sgAsked_any W A B n m c d els lims q0 q1 q2 q3 (hc.below (hBw.trans (h.mono hBw.size))) I nI cI its (hIr.below h) GA KA gn gc kn kc gg kk (hMr.below h) s1 s2 s3 fa
    have cK:=fun W=>ptSkater_any sk W
    have hPP : PP WB A n els I nI cI its GA gn gg:=⟨⟨(hc.below hBw).1,hc.2.2.1⟩,⟨hIr.1,hIr.2.2.1⟩,hMg⟩;have cT:=fun (hP : PerfG els q0 q1 q2 q3 its gg kk s1 s2 s3) (hsk : 1 <= sk /\ sk <= 999) (hfa : 10 <= fa /\ fa <= 400) W (h : Below WB.heap.size WB W)=>ptText_any W A B n m c d els q0 q1 q2 q3 I nI cI its GA KA gn gc kn kc gg kk s1 s2 s3 (hPP.below h) (hMr.below h) hP sk fa hsk hfa
    have HB : Hid (accB els lims q0 q1 q2 q3 s (its,(gg,kk),(s1,s2,s3),sk,fa) = ((askB els lims q0 q1 q2 q3 its gg kk s1 s2 s3 fa && inB sk 1 999) && ((textV els q0 q1 q2 q3 its gg kk s1 s2 s3 sk fa).toList == s.toList))):=rfl;clear hmo hnl hgl hkl hIr hMr hMg hPP hMs hc csl HZ
    cases hsk : inB sk 1 999
    ·
     rw [hsk] at cK HB;have HE : Hid (accP els lims q0 q1 q2 q3 s (spR s.data.toList) = none):=by unfold Hid;rw [HA.out,HB.out,Bool.and_false,Bool.false_and];rfl
     clear HA HB hsk cC cT;go_wp2_with ((go_at_call 42;(with_reducible refine ep (cK _) ?_)))
     refine bodyPost_ret (v:=.tuple #[.agg #[.slice none 0 0,.slice none 0 0,.slice none 0 0,.int .i64 0,.int .i64 0,.int .i64 0],.int .i64 0,.int .i64 0,.bool false]) (by simp [results,Tryz.results53,go_sem,z0,z1,z2,z3,z4,z5]) rfl ?_;exact RetRd.none_ HE.out bqq
    ·
     rw [hsk] at cK HB;have cT:=fun hP=>cT hP (inB_iff.1 hsk)
     cases hq : askB els lims q0 q1 q2 q3 its gg kk s1 s2 s3 fa
     ·
      rw [hq] at cC HB;have HE : Hid (accP els lims q0 q1 q2 q3 s (spR s.data.toList) = none):=by unfold Hid;rw [HA.out,HB.out,Bool.false_and,Bool.false_and];rfl
      clear HA HB hsk hq cT;go_wp2_with (first | (go_at_call 42;(with_reducible refine ep (cK _) ?_)) | (go_at_call 41;((with_reducible refine ex (cC _ bqq) ?_);intro u1)))
      refine bodyPost_ret (v:=.tuple #[.agg #[.slice none 0 0,.slice none 0 0,.slice none 0 0,.int .i64 0,.int .i64 0,.int .i64 0],.int .i64 0,.int .i64 0,.bool false]) (by simp [results,Tryz.results53,go_sem,zu0,zu1,zu2,zu3,zu4,zu5]) rfl ?_;exact RetRd.none_ HE.out bqq
     ·
      rw [hq] at cC HB;have hask:=ask_of hq;have cT:=cT hask.1 hask.2;clear hask hq hsk;by_cases htx : (textV els q0 q1 q2 q3 its gg kk s1 s2 s3 sk fa).toList = s.toList
      ·
       have HE : Hid (accP els lims q0 q1 q2 q3 s (spR s.data.toList) = some (its,(gg,kk),(s1,s2,s3),sk,fa)):=by unfold Hid;rw [HA.out,HB.out,htx];simp
       clear HA HB;generalize textV els q0 q1 q2 q3 its gg kk s1 s2 s3 sk fa = tv at *;have htB : (tv.toList == s.toList) = true:=by rw [htx];simp
       go_wp2_with (first | (go_at_call 42;(with_reducible refine ep (cK _) ?_)) | (go_at_call 41;((with_reducible refine ex (cC _ bqq) ?_);intro u1)) | (go_at_call 43;((with_reducible refine (cT _ bqq).mono ?_);rintro e w' ⟨rfl,u2,rfl⟩)))
       refine bodyPost_ret (v:=.tuple #[.agg #[.slice I nI cI,.slice GA gn gc,.slice KA kn kc,.int .i64 s1,.int .i64 s2,.int .i64 s3],.int .i64 sk,.int .i64 fa,.bool true]) (by simp [results,Tryz.results53,go_sem,zv0,zv1,zv2,zv3,zv4,zv5]) rfl ?_;have G0:=FM.below (show Below WB.heap.size WB (ext (ext WB u1) u2) from bqq);have s0:=Nat.le_trans hWs (szOf (show Below WB.heap.size WB (ext (ext WB u1) u2) from bqq));have G9:=(((((G0.store m1 0 (.slice I nI cI)).store (upd_same _ _ _) 1 (.slice GA gn gc)).store (upd_same _ _ _) 2 (.slice KA kn kc)).store (upd_same _ _ _) 3 (.int .i64 s1)).store (upd_same _ _ _) 4 (.int .i64 s2)).store (upd_same _ _ _) 5 (.int .i64 s3);exact RetRd.mk_ HE.out G9 (hPf.box.box.box.box.box.box) (Nat.le_refl _) (by simp only [World.setCell,Array.size_modify];exact s0) bqq
      ·
       have HE : Hid (accP els lims q0 q1 q2 q3 s (spR s.data.toList) = none):=by unfold Hid;rw [HA.out,HB.out,beq_eq_false_iff_ne.2 htx,Bool.and_false];rfl
       clear HA HB;generalize textV els q0 q1 q2 q3 its gg kk s1 s2 s3 sk fa = tv at *;have htB : (tv.toList == s.toList) = false:=beq_eq_false_iff_ne.2 htx;go_wp2_with (first | (go_at_call 42;(with_reducible refine ep (cK _) ?_)) | (go_at_call 41;((with_reducible refine ex (cC _ bqq) ?_);intro u1)) | (go_at_call 43;((with_reducible refine (cT _ bqq).mono ?_);rintro e w' ⟨rfl,u2,rfl⟩)))
       refine bodyPost_ret (v:=.tuple #[.agg #[.slice none 0 0,.slice none 0 0,.slice none 0 0,.int .i64 0,.int .i64 0,.int .i64 0],.int .i64 0,.int .i64 0,.bool false]) (by simp [results,Tryz.results53,go_sem,zv0,zv1,zv2,zv3,zv4,zv5]) rfl ?_;exact RetRd.none_ HE.out bqq
theorem ptLong_any (s : ByteArray) (w : World) (hs : s.size <= 1048576) : Calls Tryz.prog 52 #[.string s] w fun e w'=>e = .returned (.bool (decide (s.size <= 4000))) /\ w = w':=by
 by_cases h : s.size <= 4000
 ·
  have hI : (s.size : Int) <= 4000:=Om;rw [decide_eq_true h];go_enter Tryz.func52,Tryz.ntmps52;go_wp2
  all_goals first | (exfalso;omega) | skip
  go_ret;exact ⟨ret_bool (by simp [hI]),rfl⟩
 ·
  have hI : ¬ (s.size : Int) <= 4000:=Om;rw [decide_eq_false h];go_enter Tryz.func52,Tryz.ntmps52;go_wp2
  all_goals first | (exfalso;omega) | skip
  go_ret;exact ⟨ret_bool (by simp [hI]),rfl⟩
theorem ptRead_rd (w : World) (A B : OA) (n m c d : Nat) (els : List El) (lims : List Int) (q0 q1 q2 q3 : Int) (hc : CodeR w A n B m els lims) (s : ByteArray) (hs : s.size <= 4000) :
  Calls Tryz.prog 53 #[.agg #[.slice A n c,.slice B m d,.int .i64 q0,.int .i64 q1,.int .i64 q2,.int .i64 q3],.string s] w (RetRd w (rdP els lims q0 q1 q2 q3 s)):=by
 have h:=ptRead_any w A B n m c d els lims q0 q1 q2 q3 hc s hs;unfold rdP;rw [if_pos hs];exact h
theorem specReadProtocol_any (w : World) (A B : OA) (n m c d : Nat) (els : List El) (lims : List Int) (q0 q1 q2 q3 : Int) (hc : CodeR w A n B m els lims) (s : ByteArray) (hs : s.size <= 1048576) :
  Calls Tryz.prog 16 #[.agg #[.slice A n c,.slice B m d,.int .i64 q0,.int .i64 q1,.int .i64 q2,.int .i64 q3],.string s] w (RetRd w (rdP els lims q0 q1 q2 q3 s)):=by
 have ci:=fun W h=>cdGood_any W A B n m c d els lims q0 q1 q2 q3 (hc.below h).1 (hc.below h).2.1 hc.2.2.1 hc.2.2.2.1 hc.2.2.2.2
 have cl:=fun W=>ptLong_any s W hs
 have cr:=fun (hz : s.size <= 4000) W (h : Below w.heap.size w W)=>ptRead_rd W A B n m c d els lims q0 q1 q2 q3 (hc.below h) s hz
 clear hc
 cases hq : codeB els lims q0 q1 q2 q3
 ·
  have HE:=Lib.hid (rd_code (s:=s) hq);rw [hq] at ci;clear hq cr cl;go_enter Tryz.func16,Tryz.ntmps16;go_wp2_with ((go_at_call 51;((with_reducible refine ex (ci _ bqq) ?_);intro x1)))
  have hBR : Below ((w.alloc (.cells #[.slice A n c,.slice B m d,.int .i64 q0,.int .i64 q1,.int .i64 q2,.int .i64 q3] 27)).alloc (.cells #[.slice none 0 0,.slice none 0 0,.slice none 0 0,.int .i64 0,.int .i64 0,.int .i64 0] 35)).heap.size ((w.alloc (.cells #[.slice A n c,.slice B m d,.int .i64 q0,.int .i64 q1,.int .i64 q2,.int .i64 q3] 27)).alloc (.cells #[.slice none 0 0,.slice none 0 0,.slice none 0 0,.int .i64 0,.int .i64 0,.int .i64 0] 35)) (ext ((w.alloc (.cells #[.slice A n c,.slice B m d,.int .i64 q0,.int .i64 q1,.int .i64 q2,.int .i64 q3] 27)).alloc (.cells #[.slice none 0 0,.slice none 0 0,.slice none 0 0,.int .i64 0,.int .i64 0,.int .i64 0] 35)) x1):=bqq;have z0:=(hBR.cell (p:=⟨w.heap.size + 1,0,none⟩) Sg).trans (show _ = some (.slice none 0 0) from by simp [go_sem]);have z1:=(hBR.cell (p:=⟨w.heap.size + 1,1,none⟩) Sg).trans (show _ = some (.slice none 0 0) from by simp [go_sem]);have z2:=(hBR.cell (p:=⟨w.heap.size + 1,2,none⟩) Sg).trans (show _ = some (.slice none 0 0) from by simp [go_sem]);have z3:=(hBR.cell (p:=⟨w.heap.size + 1,3,none⟩) Sg).trans (show _ = some (.int .i64 0) from by simp [go_sem]);have z4:=(hBR.cell (p:=⟨w.heap.size + 1,4,none⟩) Sg).trans (show _ = some (.int .i64 0) from by simp [go_sem]);have z5:=(hBR.cell (p:=⟨w.heap.size + 1,5,none⟩) Sg).trans (show _ = some (.int .i64 0) from by simp [go_sem]);have f0:=(hBR.frozen (p:=⟨w.heap.size + 1,0,none⟩) Sg).trans (show _ = false from by simp [go_sem]);have f1:=(hBR.frozen (p:=⟨w.heap.size + 1,1,none⟩) Sg).trans (show _ = false from by simp [go_sem]);have f2:=(hBR.frozen (p:=⟨w.heap.size + 1,2,none⟩) Sg).trans (show _ = false from by simp [go_sem]);have f3:=(hBR.frozen (p:=⟨w.heap.size + 1,3,none⟩) Sg).trans (show _ = false from by simp [go_sem]);have f4:=(hBR.frozen (p:=⟨w.heap.size + 1,4,none⟩) Sg).trans (show _ = false from by simp [go_sem]);have f5:=(hBR.frozen (p:=⟨w.heap.size + 1,5,none⟩) Sg).trans (show _ = false from by simp [go_sem]);refine bodyPost_ret (v:=.tuple #[.agg #[.slice none 0 0,.slice none 0 0,.slice none 0 0,.int .i64 0,.int .i64 0,.int .i64 0],.int .i64 0,.int .i64 0,.bool false]) (by simp [results,Tryz.results16,go_sem,z0,z1,z2,z3,z4,z5]) rfl ?_;exact RetRd.none_ HE.out bqq
 ·
  rw [hq] at ci;clear hq;by_cases hl : ¬ s.size <= 4000
  ·
   have HE:=Lib.hid (rd_long (els:=els) (lims:=lims) (q0:=q0) (q1:=q1) (q2:=q2) (q3:=q3) (s:=s) Om);rw [decide_eq_false hl] at cl;clear cr hl hs;go_enter Tryz.func16,Tryz.ntmps16;go_wp2_with (first | (go_at_call 51;((with_reducible refine ex (ci _ bqq) ?_);intro x1)) | (go_at_call 52;(with_reducible refine ep (cl _) ?_)))
   have hBR : Below ((w.alloc (.cells #[.slice A n c,.slice B m d,.int .i64 q0,.int .i64 q1,.int .i64 q2,.int .i64 q3] 27)).alloc (.cells #[.slice none 0 0,.slice none 0 0,.slice none 0 0,.int .i64 0,.int .i64 0,.int .i64 0] 35)).heap.size ((w.alloc (.cells #[.slice A n c,.slice B m d,.int .i64 q0,.int .i64 q1,.int .i64 q2,.int .i64 q3] 27)).alloc (.cells #[.slice none 0 0,.slice none 0 0,.slice none 0 0,.int .i64 0,.int .i64 0,.int .i64 0] 35)) (ext ((w.alloc (.cells #[.slice A n c,.slice B m d,.int .i64 q0,.int .i64 q1,.int .i64 q2,.int .i64 q3] 27)).alloc (.cells #[.slice none 0 0,.slice none 0 0,.slice none 0 0,.int .i64 0,.int .i64 0,.int .i64 0] 35)) x1):=bqq;have z0:=(hBR.cell (p:=⟨w.heap.size + 1,0,none⟩) Sg).trans (show _ = some (.slice none 0 0) from by simp [go_sem]);have z1:=(hBR.cell (p:=⟨w.heap.size + 1,1,none⟩) Sg).trans (show _ = some (.slice none 0 0) from by simp [go_sem]);have z2:=(hBR.cell (p:=⟨w.heap.size + 1,2,none⟩) Sg).trans (show _ = some (.slice none 0 0) from by simp [go_sem]);have z3:=(hBR.cell (p:=⟨w.heap.size + 1,3,none⟩) Sg).trans (show _ = some (.int .i64 0) from by simp [go_sem]);have z4:=(hBR.cell (p:=⟨w.heap.size + 1,4,none⟩) Sg).trans (show _ = some (.int .i64 0) from by simp [go_sem]);have z5:=(hBR.cell (p:=⟨w.heap.size + 1,5,none⟩) Sg).trans (show _ = some (.int .i64 0) from by simp [go_sem]);have f0:=(hBR.frozen (p:=⟨w.heap.size + 1,0,none⟩) Sg).trans (show _ = false from by simp [go_sem]);have f1:=(hBR.frozen (p:=⟨w.heap.size + 1,1,none⟩) Sg).trans (show _ = false from by simp [go_sem]);have f2:=(hBR.frozen (p:=⟨w.heap.size + 1,2,none⟩) Sg).trans (show _ = false from by simp [go_sem]);have f3:=(hBR.frozen (p:=⟨w.heap.size + 1,3,none⟩) Sg).trans (show _ = false from by simp [go_sem]);have f4:=(hBR.frozen (p:=⟨w.heap.size + 1,4,none⟩) Sg).trans (show _ = false from by simp [go_sem]);have f5:=(hBR.frozen (p:=⟨w.heap.size + 1,5,none⟩) Sg).trans (show _ = false from by simp [go_sem]);refine bodyPost_ret (v:=.tuple #[.agg #[.slice none 0 0,.slice none 0 0,.slice none 0 0,.int .i64 0,.int .i64 0,.int .i64 0],.int .i64 0,.int .i64 0,.bool false]) (by simp [results,Tryz.results16,go_sem,z0,z1,z2,z3,z4,z5]) rfl ?_;exact RetRd.none_ HE.out bqq
  have hl:=Classical.not_not.1 hl;have cr:=cr hl;rw [decide_eq_true hl] at cl;clear hl hs;generalize rdP els lims q0 q1 q2 q3 s = o at *;unfold RetRd at cr;go_enter Tryz.func16,Tryz.ntmps16;go_wp2_with (first | (go_at_call 51;((with_reducible refine ex (ci _ bqq) ?_);intro x1)) | (go_at_call 52;(with_reducible refine ep (cl _) ?_)) | (go_at_call 53;((with_reducible refine (cr _ bqq).mono ?_);rintro e w' ⟨I,n2,c2,GA,gn,gc,KA,kn,kc,x2,R,rfl,rfl,hF,hP⟩)))
  have hBR : Below ((w.alloc (.cells #[.slice A n c,.slice B m d,.int .i64 q0,.int .i64 q1,.int .i64 q2,.int .i64 q3] 27)).alloc (.cells #[.slice none 0 0,.slice none 0 0,.slice none 0 0,.int .i64 0,.int .i64 0,.int .i64 0] 35)).heap.size ((w.alloc (.cells #[.slice A n c,.slice B m d,.int .i64 q0,.int .i64 q1,.int .i64 q2,.int .i64 q3] 27)).alloc (.cells #[.slice none 0 0,.slice none 0 0,.slice none 0 0,.int .i64 0,.int .i64 0,.int .i64 0] 35)) (ext (ext ((w.alloc (.cells #[.slice A n c,.slice B m d,.int .i64 q0,.int .i64 q1,.int .i64 q2,.int .i64 q3] 27)).alloc (.cells #[.slice none 0 0,.slice none 0 0,.slice none 0 0,.int .i64 0,.int .i64 0,.int .i64 0] 35)) x1) x2):=bqq;have z0:=(hBR.cell (p:=⟨w.heap.size + 1,0,none⟩) Sg).trans (show _ = some (.slice none 0 0) from by simp [go_sem]);have z1:=(hBR.cell (p:=⟨w.heap.size + 1,1,none⟩) Sg).trans (show _ = some (.slice none 0 0) from by simp [go_sem]);have z2:=(hBR.cell (p:=⟨w.heap.size + 1,2,none⟩) Sg).trans (show _ = some (.slice none 0 0) from by simp [go_sem]);have z3:=(hBR.cell (p:=⟨w.heap.size + 1,3,none⟩) Sg).trans (show _ = some (.int .i64 0) from by simp [go_sem]);have z4:=(hBR.cell (p:=⟨w.heap.size + 1,4,none⟩) Sg).trans (show _ = some (.int .i64 0) from by simp [go_sem]);have z5:=(hBR.cell (p:=⟨w.heap.size + 1,5,none⟩) Sg).trans (show _ = some (.int .i64 0) from by simp [go_sem]);have f0:=(hBR.frozen (p:=⟨w.heap.size + 1,0,none⟩) Sg).trans (show _ = false from by simp [go_sem]);have f1:=(hBR.frozen (p:=⟨w.heap.size + 1,1,none⟩) Sg).trans (show _ = false from by simp [go_sem]);have f2:=(hBR.frozen (p:=⟨w.heap.size + 1,2,none⟩) Sg).trans (show _ = false from by simp [go_sem]);have f3:=(hBR.frozen (p:=⟨w.heap.size + 1,3,none⟩) Sg).trans (show _ = false from by simp [go_sem]);have f4:=(hBR.frozen (p:=⟨w.heap.size + 1,4,none⟩) Sg).trans (show _ = false from by simp [go_sem]);have f5:=(hBR.frozen (p:=⟨w.heap.size + 1,5,none⟩) Sg).trans (show _ = false from by simp [go_sem]);have h1:=szOf (show Below ((w.alloc (.cells #[.slice A n c,.slice B m d,.int .i64 q0,.int .i64 q1,.int .i64 q2,.int .i64 q3] 27)).alloc (.cells #[.slice none 0 0,.slice none 0 0,.slice none 0 0,.int .i64 0,.int .i64 0,.int .i64 0] 35)).heap.size ((w.alloc (.cells #[.slice A n c,.slice B m d,.int .i64 q0,.int .i64 q1,.int .i64 q2,.int .i64 q3] 27)).alloc (.cells #[.slice none 0 0,.slice none 0 0,.slice none 0 0,.int .i64 0,.int .i64 0,.int .i64 0] 35)) (ext ((w.alloc (.cells #[.slice A n c,.slice B m d,.int .i64 q0,.int .i64 q1,.int .i64 q2,.int .i64 q3] 27)).alloc (.cells #[.slice none 0 0,.slice none 0 0,.slice none 0 0,.int .i64 0,.int .i64 0,.int .i64 0] 35)) x1) from bqq);simp only [show ∀ (W : World) (o : Obj),(W.alloc o).heap.size = W.heap.size + 1 from fun W o=>by simp [go_sem]] at h1;have hl9 : w.heap.size + 1 < (ext ((w.alloc (.cells #[.slice A n c,.slice B m d,.int .i64 q0,.int .i64 q1,.int .i64 q2,.int .i64 q3] 27)).alloc (.cells #[.slice none 0 0,.slice none 0 0,.slice none 0 0,.int .i64 0,.int .i64 0,.int .i64 0] 35)) x1).heap.size:=Om;have hbw : Below w.heap.size w (ext (ext ((w.alloc (.cells #[.slice A n c,.slice B m d,.int .i64 q0,.int .i64 q1,.int .i64 q2,.int .i64 q3] 27)).alloc (.cells #[.slice none 0 0,.slice none 0 0,.slice none 0 0,.int .i64 0,.int .i64 0,.int .i64 0] 35)) x1) x2):=bqq;clear hBR;have hbs : w.heap.size <= (ext ((w.alloc (.cells #[.slice A n c,.slice B m d,.int .i64 q0,.int .i64 q1,.int .i64 q2,.int .i64 q3] 27)).alloc (.cells #[.slice none 0 0,.slice none 0 0,.slice none 0 0,.int .i64 0,.int .i64 0,.int .i64 0] 35)) x1).heap.size:=Om;generalize (ext ((w.alloc (.cells #[.slice A n c,.slice B m d,.int .i64 q0,.int .i64 q1,.int .i64 q2,.int .i64 q3] 27)).alloc (.cells #[.slice none 0 0,.slice none 0 0,.slice none 0 0,.int .i64 0,.int .i64 0,.int .i64 0] 35)) x1).heap.size = bq at hF hl9 hbs;generalize hWB : (ext (ext ((w.alloc (.cells #[.slice A n c,.slice B m d,.int .i64 q0,.int .i64 q1,.int .i64 q2,.int .i64 q3] 27)).alloc (.cells #[.slice none 0 0,.slice none 0 0,.slice none 0 0,.int .i64 0,.int .i64 0,.int .i64 0] 35)) x1) x2) = WB at *;refine bodyPost_ret (v:=.tuple #[.agg #[.slice I n2 c2,.slice GA gn gc,.slice KA kn kc,.int .i64 (o.getD zPR).2.2.1.1,.int .i64 (o.getD zPR).2.2.1.2.1,.int .i64 (o.getD zPR).2.2.1.2.2],.int .i64 (o.getD zPR).2.2.2.1,.int .i64 (o.getD zPR).2.2.2.2,.bool o.isSome]) (by simp [results,Tryz.results16,go_sem,z0,z1,z2,z3,z4,z5]) rfl ?_;have G9:=(((((hF.setLow (k:=0) (v:=.slice I n2 c2) hl9).setLow (k:=1) (v:=.slice GA gn gc) hl9).setLow (k:=2) (v:=.slice KA kn kc) hl9).setLow (k:=3) (v:=.int .i64 (o.getD zPR).2.2.1.1) hl9).setLow (k:=4) (v:=.int .i64 (o.getD zPR).2.2.1.2.1) hl9).setLow (k:=5) (v:=.int .i64 (o.getD zPR).2.2.1.2.2) hl9;obtain ⟨z,hz⟩:=ext_ex (show Below w.heap.size w ((((((WB.setCell ⟨w.heap.size + 1,0,none⟩ (.slice I n2 c2)).setCell ⟨w.heap.size + 1,1,none⟩ (.slice GA gn gc)).setCell ⟨w.heap.size + 1,2,none⟩ (.slice KA kn kc)).setCell ⟨w.heap.size + 1,3,none⟩ (.int .i64 (o.getD zPR).2.2.1.1)).setCell ⟨w.heap.size + 1,4,none⟩ (.int .i64 (o.getD zPR).2.2.1.2.1)).setCell ⟨w.heap.size + 1,5,none⟩ (.int .i64 (o.getD zPR).2.2.1.2.2)) from bqq);have hsz : WB.heap.size = ((((((WB.setCell ⟨w.heap.size + 1,0,none⟩ (.slice I n2 c2)).setCell ⟨w.heap.size + 1,1,none⟩ (.slice GA gn gc)).setCell ⟨w.heap.size + 1,2,none⟩ (.slice KA kn kc)).setCell ⟨w.heap.size + 1,3,none⟩ (.int .i64 (o.getD zPR).2.2.1.1)).setCell ⟨w.heap.size + 1,4,none⟩ (.int .i64 (o.getD zPR).2.2.1.2.1)).setCell ⟨w.heap.size + 1,5,none⟩ (.int .i64 (o.getD zPR).2.2.1.2.2)).heap.size:=by simp [World.setCell]
  have G8:=G9.mono hbs (Nat.le_of_eq hsz);rw [hz] at G8;exact ⟨I,n2,c2,GA,gn,gc,KA,kn,kc,z,R,rfl,hz,G8,hP⟩
theorem specRenumbered_any (w : World) (A B : OA) (n m c d : Nat) (els : List El) (lims : List Int) (q0 q1 q2 q3 : Int) (hc : CodeR w A n B m els lims) (s : ByteArray) (skater : Int) (hs : s.size <= 1048576) :
  Calls Tryz.prog 21 #[.agg #[.slice A n c,.slice B m d,.int .i64 q0,.int .i64 q1,.int .i64 q2,.int .i64 q3],.string s,.int .i64 skater] w (RetSK w (renV els q0 q1 q2 q3 skater (rdP els lims q0 q1 q2 q3 s)) ((rdP els lims q0 q1 q2 q3 s).isSome && inB skater 1 999)):=by
 have cr:=fun W h=>specReadProtocol_any W A B n m c d els lims q0 q1 q2 q3 (hc.below h) s hs
 have ck:=fun W=>ptSkater_any skater W
 have hgood:=fun v=>@rd_good els lims q0 q1 q2 q3 s v
 generalize rdP els lims q0 q1 q2 q3 s = o at *;unfold RetRd at cr
 cases o with
 | none =>
  simp only [Option.isSome_none,Option.getD_none] at cr;clear hc hgood;go_enter Tryz.func21,Tryz.ntmps21;go_wp2_with ((go_at_call 16;((with_reducible refine (cr _ bqq).mono ?_);rintro e w' ⟨I,n2,c2,GA,gn,gc,KA,kn,kc,x2,R,rfl,rfl,hF,hP⟩)))
  go_ret2;exact RetSK.mk_ rfl rfl bqq
 | some v =>
  obtain ⟨its,⟨gg,kk⟩,⟨s1,s2,s3⟩,sk,fa⟩:=v;simp only [Option.isSome_some,Option.getD_some] at cr;have hB:=hgood _ rfl;simp only at hB;clear hgood
  cases hk : inB skater 1 999
  ·
   have HV : Hid (renV els q0 q1 q2 q3 skater (some (its,(gg,kk),(s1,s2,s3),sk,fa)) = ⟨#[]⟩):=by unfold Hid renV;simp only;rw [hk];rfl
   rw [hk] at ck;clear hc hB hk;go_enter Tryz.func21,Tryz.ntmps21;go_wp2_with (first | (go_at_call 16;((with_reducible refine (cr _ bqq).mono ?_);rintro e w' ⟨I,n2,c2,GA,gn,gc,KA,kn,kc,x2,R,rfl,rfl,hF,hP⟩)) | (go_at_call 42;(with_reducible refine ep (ck _) ?_)))
   go_ret2;exact RetSK.mk_ (by rw [HV.out]) rfl bqq
  ·
   have HV : Hid (renV els q0 q1 q2 q3 skater (some (its,(gg,kk),(s1,s2,s3),sk,fa)) = textV els q0 q1 q2 q3 its gg kk s1 s2 s3 skater fa):=by unfold Hid renV;simp only;rw [hk];rfl
   obtain ⟨hit,hPG,hfa,hsk⟩:=pro_of hB;have hskr:=inB_iff.1 hk;rw [hk] at ck;have hmk:=hPG.mks;have hlen:=hPG.len;have hmo:=marksB_of hmk;have hB2:=hPG;clear hB hk;have ct:=fun W (h1 : Below w.heap.size w W) (I : OA) (n2 c2 : Nat) (GA : OA) (gn gc : Nat) (KA : OA) (kn kc : Nat) (x2 : World) (R : Fam) (b hi : Nat) (hb : Below (ext (w.alloc (.cells #[.slice A n c,.slice B m d,.int .i64 q0,.int .i64 q1,.int .i64 q2,.int .i64 q3] 27)) x2).heap.size (ext (w.alloc (.cells #[.slice A n c,.slice B m d,.int .i64 q0,.int .i64 q1,.int .i64 q2,.int .i64 q3] 27)) x2) W) (hF : Fo b hi (ext (w.alloc (.cells #[.slice A n c,.slice B m d,.int .i64 q0,.int .i64 q1,.int .i64 q2,.int .i64 q3] 27)) x2) R) (hP : PfF R I n2 c2 its GA gn gc gg KA kn kc kk)=>ptText_any W A B n m c d els q0 q1 q2 q3 I n2 c2 its GA KA gn gc kn kc gg kk s1 s2 s3 ⟨⟨(hc.below h1).1,hc.2.2.1⟩,⟨(hP.1.rd hF).below hb,hP.1.cap hF⟩,(hP.2.1.rd hF).below hb⟩ ((RdMk.of_len (hP.2.1.rd hF) (hP.2.2.rd hF) (by have:=hP.2.1.1;omega) (by have:=hP.2.2.1;omega) (marks_rows9 hmk)).below hb) hB2 skater fa hskr hfa
   clear hc;go_enter Tryz.func21,Tryz.ntmps21;go_wp2_with (first | (go_at_call 16;((with_reducible refine (cr _ bqq).mono ?_);rintro e w' ⟨I,n2,c2,GA,gn,gc,KA,kn,kc,x2,R,rfl,rfl,hF,hP⟩)) | (go_at_call 42;(with_reducible refine ep (ck _) ?_)) | (go_at_call 43;((with_reducible refine (ct _ bqq I n2 c2 GA gn gc KA kn kc x2 R _ _ bqq hF hP).mono ?_);rintro e w' ⟨rfl,x3,rfl⟩)))
   go_ret2;exact RetSK.mk_ (by rw [HV.out]) rfl bqq
end Go.Proofs.YtlfhhkgleapamaaGreatDoor
