/- Contracts: marks read from text, in the program. Conditions: strings below 2^21 bytes. -/
import Derived.Test.YtlfhhkgleapamaaGreatDoorRParA
import Derived.Test.YtlfhhkgleapamaaGreatDoorRBase0
set_option linter.unusedVariables false
set_option linter.unusedSimpArgs false
set_option maxRecDepth 100000
set_option maxHeartbeats 16000000
namespace Go.Proofs.YtlfhhkgleapamaaGreatDoor
open Go.RowKit
theorem RdMk.of_len {w : World} {A B : OA} {n m : Nat} {gg kk : List (List Int)} (hA : RdM w A n gg) (hB : RdM w B m kk) (hn : n <= 1048576) (hm : m <= 1048576) (h : (∀ l ∈ gg,l.length <= 2000001) /\ ∀ l ∈ kk,l.length <= 2000001) : RdMk w A n B m gg kk :=
 ⟨hA,hB,Om,Om,fun j hj=>by have:=h.1 _ (getD_mem [] gg j (by rw [hA.1];exact hj));omega,fun j hj=>by have:=h.2 _ (getD_mem [] kk j (by rw [hB.1];exact hj));omega⟩
theorem asMarks_yes (w : World) (A B : OA) (n m c d : Nat) (gg kk : List (List Int)) (hm : RdMk w A n B m gg kk) (hq : marksB gg kk = true) :
  Calls Tryz.prog 133 #[.agg #[.slice A n c,.slice B m d]] w fun e w'=>e = .returned (.tuple #[.agg #[.slice A n c,.slice B m d],.bool true]) /\ ∃ x,w' = ext w x:=by
 have ci:=fun W h=>isMarks_any W A B n m c d gg kk (hm.below h)
 rw [hq] at ci;go_enter Tryz.func133,Tryz.ntmps133;go_wp2_with ((go_at_call 128;((with_reducible refine ex (ci _ bL) ?_);intro x1)))
 refine bodyPost_ret (v:=.tuple #[.agg #[.slice A n c,.slice B m d],.bool true]) (by simp [results,Tryz.results133,go_sem]) rfl ?_;exact ⟨rfl,ext_ex bL⟩
theorem asMarks_no (w : World) (A B : OA) (n m c d : Nat) (gg kk : List (List Int)) (hm : RdMk w A n B m gg kk) (hq : marksB gg kk = false) :
  Calls Tryz.prog 133 #[.agg #[.slice A n c,.slice B m d]] w fun e w'=>e = .returned (.tuple #[.agg #[.slice none 0 0,.slice none 0 0],.bool false]) /\ ∃ x,w' = ext w x:=by
 have ci:=fun W h=>isMarks_any W A B n m c d gg kk (hm.below h)
 rw [hq] at ci;go_enter Tryz.func133,Tryz.ntmps133;go_wp2_with ((go_at_call 128;((with_reducible refine ex (ci _ bL) ?_);intro x1)))
 refine bodyPost_ret (v:=.tuple #[.agg #[.slice none 0 0,.slice none 0 0],.bool false]) (by simp [results,Tryz.results133,go_sem]) rfl ?_;exact ⟨rfl,ext_ex bL⟩
def RetMkK (w : World) (o : Option MM) (e : Ending) (w' : World) : Prop:=∃ A n c B m d x R,e = .returned (.tuple #[.agg #[.slice A n c,.slice B m d],.bool o.isSome]) /\ w' = ext w x /\ Fo w.heap.size (ext w x).heap.size (ext w x) R /\ TbF 1 5 R A n c (o.getD ([],[])).1 /\ TbF 2 6 R B m d (o.getD ([],[])).2
def famM : Fam:=upd (upd famN (1,0) ⟨25,1,none,0,0,[]⟩) (2,0) ⟨25,1,none,0,0,[]⟩
theorem famM_fo {b hi : Nat} {w : World} : Fo b hi w famM :=
 ((Fo.nil_ (b:=b) (hi:=hi) (w:=w)).putF (j:=(1,0)) (r:=⟨25,1,none,0,0,[]⟩) (World.grownBy.refl _ _) Ow.nil_ (fun _ _=>.inl rfl) (Nat.le_refl _) (fun z hz=>by cases hz)).putF (World.grownBy.refl _ _) Ow.nil_ (fun _ _=>.inl rfl) (Nat.le_refl _) (fun z hz=>by cases hz)
theorem TbF.nil1 : TbF 1 5 famM none 0 0 []:=⟨rfl,⟨fun _=>none,fun _=>0,fun _=>0,by simp [famM,upd],fun j hj=>absurd hj Om⟩,fun j _=>by simp [famM,upd,famN]⟩
theorem TbF.nil2 : TbF 2 6 famM none 0 0 []:=⟨rfl,⟨fun _=>none,fun _=>0,fun _=>0,by simp [famM,upd],fun j hj=>absurd hj Om⟩,fun j _=>by simp [famM,upd,famN]⟩
theorem RetMkK.none_ {w W : World} {o : Option MM} (h : o = none) (hb : Below w.heap.size w W) : RetMkK w o (.returned (.tuple #[.agg #[.slice none 0 0,.slice none 0 0],.bool false])) W:=by
 subst h;obtain ⟨x,rfl⟩:=ext_ex hb;exact ⟨none,0,0,none,0,0,x,famM,rfl,rfl,famM_fo,TbF.nil1,TbF.nil2⟩
theorem RetMkK.mk_ {w W : World} {o : Option MM} {gg kk : List (List Int)} {b hi : Nat} {R : Fam} {A B : OA} {n c m d : Nat} (h : o = some (gg,kk)) (hF : Fo b hi W R) (hA : TbF 1 5 R A n c gg) (hB : TbF 2 6 R B m d kk) (hbase : w.heap.size <= b) (hhi : hi <= W.heap.size) (hb : Below w.heap.size w W) : RetMkK w o (.returned (.tuple #[.agg #[.slice A n c,.slice B m d],.bool true])) W:=by
 subst h;obtain ⟨x,rfl⟩:=ext_ex hb;exact ⟨A,n,c,B,m,d,x,R,rfl,rfl,hF.mono hbase hhi,hA,hB⟩
theorem pmR_lines {s : Str} (h : linesR s = none) : pmR s = none:=by unfold pmR;rw [h]
theorem pmR_len {s : Str} {ls : List Str} (h : linesR s = some ls) (hl : ¬ (3 <= ls.length /\ ls.length <= 17)) : pmR s = none:=by unfold pmR;rw [h];simp only;rw [if_neg hl]
theorem pmR_read {s : Str} {ls : List Str} (h : linesR s = some ls) (hl : 3 <= ls.length /\ ls.length <= 17) (hr : mkRead ls.length 0 ls [] [] = none) : pmR s = none:=by unfold pmR;rw [h];simp only;rw [if_pos hl,hr]
theorem pmR_at {s : Str} {ls : List Str} {gg kk : List (List Int)} (h : linesR s = some ls) (hl : 3 <= ls.length /\ ls.length <= 17) (hr : mkRead ls.length 0 ls [] [] = some (gg,kk)) : pmR s = if marksB gg kk then some (gg,kk) else none:=by unfold pmR;rw [h];simp only;rw [if_pos hl,hr]
theorem mkRead_step {n i : Nat} {ls : List Str} {gg kk : List (List Int)} (h : i < ls.length) :
  mkRead n i (ls.drop i) gg kk = match oAll intR (spl 32 (ls[i]?.getD [])).tail with
   | none=>none
   | some row=>if (spl 32 (ls[i]?.getD [])).headD [] = [103] /\ i + 3 < n then mkRead n (i + 1) (ls.drop (i + 1)) (gg ++ [row]) kk
    else if (spl 32 (ls[i]?.getD [])).headD [] = [99] /\ n <= i + 3 then mkRead n (i + 1) (ls.drop (i + 1)) gg (kk ++ [row]) else none:=by
 rw [List.drop_eq_getElem_cons h,mkRead,intsR_oAll];have : ls[i]?.getD [] = ls[i]:=by simp [h]
 rw [this]
 cases oAll intR (spl 32 ls[i]).tail <;> rfl
theorem spl_head (s : ByteArray) : (spl 32 s.data.toList).headD [] = ((spls 32 s)[0]?.getD ByteArray.empty).data.toList:=by
 rw [spls_at,<- spl_ht 32 s.data.toList];rfl
theorem spl_tail (s : ByteArray) : (spl 32 s.data.toList).tail = ((spls 32 s).drop 1).map (·.data.toList):=by
 rw [List.map_drop,spls_data,List.drop_one]
theorem lnsO_some {s : ByteArray} {ls : List Str} (h : linesR s.data.toList = some ls) : lnsO s = ls.map bs:=by unfold lnsO;rw [h];rfl
theorem lns_sz {s : Str} {ls : List Str} (h : linesR s = some ls) : ∀ l ∈ ls,l.length <= s.length:=by
 intro l hl;unfold linesR at h
 split at h
 ·
  injection h with h;subst h;simp at hl
 ·
  split at h
  ·
   injection h with h;subst h;have:=spl_mem_len hl;rw [List.length_dropLast] at this;omega
  ·
   cases h
theorem parseMarks_any (s : ByteArray) (w : World) (hs : s.size <= 1999999) (hM : Mxl w) :
  Calls Tryz.prog 90 #[.string s] w (RetMkK w (pmR s.data.toList)):=by
 have hM':=fun W (h : Below w.heap.size w W)=>hM.below h
 have cl:=fun W (h : Below w.heap.size w W)=>linesOf_any s W Om (hM' W h)
 cases hr : linesR s.data.toList with
 | none =>
  have HE:=Lib.hid (pmR_lines hr);have hk : lnsK s = false:=by unfold lnsK;rw [hr];rfl
  rw [hk] at cl;clear hk hr hM;generalize lnsO s = lo at *;go_enter Tryz.func90,Tryz.ntmps90;go_wp2_with ((go_at_call 87;((with_reducible refine (cl _ bL).mono ?_);rintro e w' ⟨A1,n1,c1,x1,rfl,rfl,o1⟩)))
  refine bodyPost_ret (v:=.tuple #[.agg #[.slice none 0 0,.slice none 0 0],.bool false]) (by simp [results,Tryz.results90,go_sem]) rfl ?_;exact RetMkK.none_ HE.out bL
 | some ls =>
  have hk : lnsK s = true:=by unfold lnsK;rw [hr];rfl
  have hlo:=lnsO_some hr;have hzz:=lns_sz hr;rw [hk,hlo] at cl;clear hk hlo hM;have hlm : (ls.map bs).length = ls.length:=List.length_map ..;have cw:=fun W=>within_any (ls.length : Int) 3 17 W
  by_cases hl : ¬ (3 <= ls.length /\ ls.length <= 17)
  ·
   have HE:=Lib.hid (pmR_len hr hl);rw [show inB (ls.length : Int) 3 17 = false by simp [inB];omega] at cw;clear hr hl hzz;generalize ls.map bs = lb at *;generalize ls.length = n0 at *;have HL:=Lib.hid hlm;clear hlm;go_enter Tryz.func90,Tryz.ntmps90;go_wp2_with (first | (go_at_call 87;((with_reducible refine (cl _ bL).mono ?_);rintro e w' ⟨A1,n1,c1,x1,rfl,rfl,o1⟩;(obtain rfl : n1 = n0:=o1.len.symm.trans HL.out))) | (go_at_call 64;(with_reducible refine ep (cw _) ?_)))
   refine bodyPost_ret (v:=.tuple #[.agg #[.slice none 0 0,.slice none 0 0],.bool false]) (by simp [results,Tryz.results90,go_sem]) rfl ?_;exact RetMkK.none_ HE.out bL
  have hl:=Classical.not_not.1 hl;rw [show inB (ls.length : Int) 3 17 = true by simp [inB];omega] at cw;have HNO:=Lib.hid (@pmR_read _ _ hr hl);have HAT:=Lib.hid (fun gg kk=>@pmR_at _ _ gg kk hr hl);clear hr;have HL:=Lib.hid hlm;clear hlm;have hlsz : ∀ j,j < ls.length -> (ls.map bs)[j]?.getD ByteArray.empty = bs (ls[j]?.getD []) /\ (bs (ls[j]?.getD [])).size <= 1999999:=fun j hj=>by
   refine ⟨by simp [hj],?_⟩;have:=hzz _ (getD_mem [] ls j hj);rw [Lib.size_eq,bs_data];rw [<- Lib.size_eq] at this;omega
  have HLS:=Lib.hid hlsz;clear hlsz hzz;generalize ls.map bs = lb at *;obtain ⟨n0,hn0⟩ : ∃ n0,ls.length = n0:=⟨_,rfl⟩;rw [hn0] at cw HL HLS HNO HAT hl;have HN0:=Lib.hid hn0;clear hn0;go_enter Tryz.func90,Tryz.ntmps90;go_wp2_with (first | (go_at_call 87;((with_reducible refine (cl _ bL).mono ?_);rintro e w' ⟨A1,n1,c1,x1,rfl,rfl,o1⟩;(obtain rfl : n1 = n0:=o1.len.symm.trans HL.out))) | (go_at_call 64;(with_reducible refine ep (cw _) ?_)))
  have hl3:=hl.1;have hl17:=hl.2;have sz : ∀ (W : World) (o : Obj),(W.alloc o).heap.size = W.heap.size + 1:=fun W o=>by simp [go_sem]
  have hS0 : w.heap.size + 1 <= (ext (w.alloc (.cells #[.slice none 0 0,.slice none 0 0] 31)) x1).heap.size:=by have:=ext_le (w.alloc (.cells #[.slice none 0 0,.slice none 0 0] 31)) x1;rw [sz] at this;exact this
  have F1:=(Fo.nil_ (b:=w.heap.size) (hi:=w.heap.size) (w:=w)).lit (j:=(9,1)) rfl (Nat.le_refl _) (Nat.le_refl _) 31 2 1 #[.slice none 0 0,.slice none 0 0] rfl (by simp [maxLen]) [.slice none 0 0,.slice none 0 0] rfl;have F2:=F1.addT (j:=(9,2)) (by simp [upd,famN]) (ext_below _ x1) (by simp only [sz];omega) (by simp only [sz];omega) (by simp only [sz];omega) o1;have F3:=F2.lit (j:=(1,0)) (by simp [upd,famN]) (Nat.le_refl _) Om 25 1 0 #[] rfl (by simp [maxLen]) [] rfl;have F4:=F3.lit (j:=(2,0)) (by simp [upd,famN]) (by simp only [sz];omega) (by simp only [sz];omega) 25 1 0 #[] rfl (by simp [maxLen]) [] rfl;have F5:=F4.lit (j:=(9,0)) (by simp [upd,famN]) (by simp only [sz];omega) (by simp only [sz];omega) 31 2 1 #[.slice (some ⟨(ext (w.alloc (.cells #[.slice none 0 0,.slice none 0 0] 31)) x1).heap.size,0,none⟩) 0 0,.slice (some ⟨(ext (w.alloc (.cells #[.slice none 0 0,.slice none 0 0] 31)) x1).heap.size + 1,0,none⟩) 0 0] rfl (by simp [maxLen]) _ rfl;clear F1 F2 F3 F4 o1;have hsW : ((((ext (w.alloc (.cells #[.slice none 0 0,.slice none 0 0] 31)) x1).alloc (.cells #[] 25)).alloc (.cells #[] 25)).alloc (.cells #[.slice (some ⟨(ext (w.alloc (.cells #[.slice none 0 0,.slice none 0 0] 31)) x1).heap.size,0,none⟩) 0 0,.slice (some ⟨(ext (w.alloc (.cells #[.slice none 0 0,.slice none 0 0] 31)) x1).heap.size + 1,0,none⟩) 0 0] 31)).heap.size = (ext (w.alloc (.cells #[.slice none 0 0,.slice none 0 0] 31)) x1).heap.size + 1 + 1 + 1:=by simp only [sz]
  have e9 : ∀ W : World,(W.alloc (.cells #[] 25)).heap.size = W.heap.size + 1:=fun W=>sz W _
  simp only [e9] at F5
  go_loopw [7,8,9,10,11,31,45,49,67] (fun _ _ _ _ _ i _ _ _ wr=>∃ (k : Nat) (R : Fam) (GA : OA) (gn gc : Nat) (gg : List (List Int)) (KA : OA) (kn kc : Nat) (kk : List (List Int)) (y : World),k <= n1 /\ i = .int .i64 k /\ wr = ext w y /\ Fo w.heap.size wr.heap.size wr R /\ R (9,0) = ⟨31,2,some ⟨(ext (w.alloc (.cells #[.slice none 0 0,.slice none 0 0] 31)) x1).heap.size + 1 + 1,0,none⟩,1,1,[.slice GA gn gc,.slice KA kn kc]⟩ /\ R (9,1) = ⟨31,2,some ⟨w.heap.size,0,none⟩,1,1,[.slice none 0 0,.slice none 0 0]⟩ /\ R (9,2) = rowT A1 n1 c1 lb /\ TbF 1 5 R GA gn gc gg /\ TbF 2 6 R KA kn kc kk /\ gn + kn = k /\ Hid ((∀ l ∈ gg,l.length <= 2000001) /\ ∀ l ∈ kk,l.length <= 2000001) /\ Hid (mkRead n1 k (ls.drop k) gg kk = mkRead n1 0 ls [] [])) (fun _ _ _ _ _ i _ _ _ _=>n1 - (intOf i).toNat)
  case atStart =>
   obtain ⟨y,hy⟩:=ext_ex (show Below w.heap.size w ((((ext (w.alloc (.cells #[.slice none 0 0,.slice none 0 0] 31)) x1).alloc (.cells #[] 25)).alloc (.cells #[] 25)).alloc (.cells #[.slice (some ⟨(ext (w.alloc (.cells #[.slice none 0 0,.slice none 0 0] 31)) x1).heap.size,0,none⟩) 0 0,.slice (some ⟨(ext (w.alloc (.cells #[.slice none 0 0,.slice none 0 0] 31)) x1).heap.size + 1,0,none⟩) 0 0] 31)) from bL);refine ⟨0,_,some ⟨(ext (w.alloc (.cells #[.slice none 0 0,.slice none 0 0] 31)) x1).heap.size,0,none⟩,0,0,[],some ⟨(ext (w.alloc (.cells #[.slice none 0 0,.slice none 0 0] 31)) x1).heap.size + 1,0,none⟩,0,0,[],y,Om,rfl,hy,F5.mono (Nat.le_refl _) (by rw [hsW];exact Nat.le_refl _),by simp [upd],by simp [upd],by simp [upd],⟨rfl,⟨fun _=>none,fun _=>0,fun _=>0,by simp [upd],fun j hj=>absurd hj Om⟩,fun j _=>by simp [upd,famN]⟩,⟨rfl,⟨fun _=>none,fun _=>0,fun _=>0,by simp [upd],fun j hj=>absurd hj Om⟩,fun j _=>by simp [upd,famN]⟩,rfl,⟨fun l hl=>by simp at hl,fun l hl=>by simp at hl⟩,rfl⟩
  case round =>
   obtain ⟨k,R,GA,gn,gc,gg,KA,kn,kc,kk,y,hk,rfl,rfl,hF,e0,e1,e2,tG,tK,hgk,HZ,HR⟩:=hrel;clear F5 hsW e9;by_cases hlt : k < n1
   ·
    obtain ⟨b1,rfl,hb1,hb2⟩:=(hF.ownT e2).form_ Om;have hck:=(hF.ownT e2).cell_ k hlt;obtain ⟨hlb,hlz⟩:=HLS.out k hlt;rw [hlb] at hck;have hstep:=mkRead_step (n:=n1) (i:=k) (ls:=ls) (gg:=gg) (kk:=kk) (by rw [HN0.out];exact hlt);rw [HR.out] at hstep;obtain ⟨line,hline⟩ : ∃ line,bs (ls[k]?.getD []) = line:=⟨_,rfl⟩;have hld : ls[k]?.getD [] = line.data.toList:=by rw [<- hline,bs_data]
    rw [hline] at hck hlz;rw [hld,spl_tail,spl_head] at hstep;clear hline hld hlb;have csp:=fun W (h : Below w.heap.size w W)=>split_any line 32 W Om (hM' W h)
    have hpos:=spls_pos 32 line;have hbd:=spls_bd 32 line;have hsz : ∀ x ∈ spls 32 line,x.size <= 2000000:=fun x hx=>Nat.le_trans (spls_mem hx) Om
    generalize spls 32 line = WL at *;have hsz2:=mem_drop_sz hsz 1;have hTl : (WL.drop 1).length <= 2000001:=by rw [List.length_drop];omega
    generalize hT : WL.drop 1 = T at *;have HT:=Lib.hid hT;generalize hw0 : WL[0]?.getD ByteArray.empty = w0 at *;have HW:=Lib.hid hw0;have cin:=fun (A : OA) (n c : Nat) (W : World) (h1 : RdT W A n T) (h2 : n <= 2000000)=>integersIn_any W A n c T h1 h2 hsz2
    unfold intsO intsK at cin;have hm0:=fun x2 x3=>(((hF.below' (ext_below _ x2) (Nat.le_refl _)).below' (ext_below _ x3) (Nat.le_refl _)).cell e0 0 _ rfl).1
    have hm1:=fun x2 x3=>(((hF.below' (ext_below _ x2) (Nat.le_refl _)).below' (ext_below _ x3) (Nat.le_refl _)).cell e0 1 _ rfl).1
    have hgb : w.heap.size <= (ext (w.alloc (.cells #[.slice none 0 0,.slice none 0 0] 31)) x1).heap.size + 1 + 1:=Om;have hs0:=fun x2 x3=>(((hF.below' (ext_below _ x2) (Nat.le_refl _)).below' (ext_below _ x3) (Nat.le_refl _)).cell e1 0 _ rfl).1
    have hs1:=fun x2 x3=>(((hF.below' (ext_below _ x2) (Nat.le_refl _)).below' (ext_below _ x3) (Nat.le_refl _)).cell e1 1 _ rfl).1
    have hz0:=fun x2 x3=>(((hF.below' (ext_below _ x2) (Nat.le_refl _)).below' (ext_below _ x3) (Nat.le_refl _)).cell e1 0 _ rfl).2
    have hz1:=fun x2 x3=>(((hF.below' (ext_below _ x2) (Nat.le_refl _)).below' (ext_below _ x3) (Nat.le_refl _)).cell e1 1 _ rfl).2
    have ew : IntKind.i64.wrap ((n1 : Int) - 3) = (n1 : Int) - 3:=IntWalk.i64_in _ Om;clear hT hw0 hsz HLS
    cases hrow : oAll intR (T.map (·.data.toList)) with
    | none =>
     rw [hrow] at cin hstep;simp only [Option.isSome_none,Option.getD_none] at cin;have HE:=Lib.hid (HNO.out hstep);clear hrow hstep;go_wp2_with (first | (go_at_call 54;((with_reducible refine (csp _ bL).mono ?_);rintro e w' ⟨A2,n2,c2,x2,rfl,rfl,o2⟩;(have hl2:=o2.len);(obtain ⟨b2,rfl,hb2,hb2'⟩:=o2.form_ Om);(have hc0:=o2.cell_ 0 Om);(rw [HW.out] at hc0);(have hcap:=o2.cap_);(have hr1:=o2.rd.drop_ 1 Om);(rw [HT.out,Nat.zero_add] at hr1);(have hr0 : c2 = 1 -> RdT (ext (ext w y) x2) (some ⟨b2,0,none⟩) (n2 - 1) T:=fun e=>⟨by have:=hr1.len;simpa using this,fun h=>absurd h Om⟩);(have h1n : 1 <= n2:=Om);(have h1I : (1 : Int) <= n2:=Om))) | (go_at_call 130;((with_reducible refine (cin _ _ _ _ hr1 Om).mono ?_);rintro e w' ⟨A3,n3,c3,x3,rfl,rfl,o3⟩)) | (go_at_call 130;((with_reducible refine (cin _ _ _ _ (hr0 (by assumption)) Om).mono ?_);rintro e w' ⟨A3,n3,c3,x3,rfl,rfl,o3⟩)))
     all_goals
      refine bodyPost_ret (v:=.tuple #[.agg #[.slice none 0 0,.slice none 0 0],.bool false]) (by simp [results,Tryz.results90,go_sem,hz0,hz1,hs0,hs1]) rfl ?_;exact RetMkK.none_ HE.out bL
    | some row =>
     rw [hrow] at cin hstep;simp only [Option.isSome_some,Option.getD_some] at cin;have hrl : row.length <= 2000001:=by have:=oAll_len hrow;rw [List.length_map] at this;omega
     clear hrow hTl;simp only at hstep;by_cases hg : w0.data.toList = [103]
     ·
      have hgT : w0.toList = [103]:=by rw [Lib.toList_data];exact hg
      have hgc : ¬ ([103] : Str) = [99]:=by decide
      rw [hg] at hstep;by_cases hki : k + 3 < n1
      ·
       rw [if_pos ⟨rfl,hki⟩] at hstep;have hkI : (k : Int) < (n1 : Int) - 3:=Om;clear hg hki;have HN:=Lib.hid hstep;clear hstep;obtain ⟨xs,eT,_⟩:=tG.push (by decide) [] none 0 0;have hOwn:=hF.at_ eT;have hzr:=tG.2.2 gn (Nat.le_refl _);have hkb : gn <= 1099511627776:=Om;go_wp2_with (first | (go_at_call 54;((with_reducible refine (csp _ bL).mono ?_);rintro e w' ⟨A2,n2,c2,x2,rfl,rfl,o2⟩;(have hl2:=o2.len);(obtain ⟨b2,rfl,hb2,hb2'⟩:=o2.form_ Om);(have hc0:=o2.cell_ 0 Om);(rw [HW.out] at hc0);(have hcap:=o2.cap_);(have hr1:=o2.rd.drop_ 1 Om);(rw [HT.out,Nat.zero_add] at hr1);(have hr0 : c2 = 1 -> RdT (ext (ext w y) x2) (some ⟨b2,0,none⟩) (n2 - 1) T:=fun e=>⟨by have:=hr1.len;simpa using this,fun h=>absurd h Om⟩);(have h1n : 1 <= n2:=Om);(have h1I : (1 : Int) <= n2:=Om))) | (go_at_call 130;((with_reducible refine (cin _ _ _ _ hr1 Om).mono ?_);rintro e w' ⟨A3,n3,c3,x3,rfl,rfl,o3⟩)) | (go_at_call 130;((with_reducible refine (cin _ _ _ _ (hr0 (by assumption)) Om).mono ?_);rintro e w' ⟨A3,n3,c3,x3,rfl,rfl,o3⟩)) | (at_builtin;(refine wpl_push_row w _ _ _ _ _ ?_ rfl _ _ rfl GA gn gc _ rfl (Nat.le_refl _) ?_ hOwn ?_ ?_ rfl hkb ?_);(focus (first | rfl | (simp;done)));(focus (refine szOf ?_;exact bL));exact bL;exact bL;intro A' c' y' ho' hg' hd';have G1:=hF.below' (ext_below _ x2) (Nat.le_refl _);have G2:=G1.addI (j:=(5,gn)) hzr (ext_below _ x3) (Nat.le_refl _) (Nat.le_refl _) (Nat.le_trans (ext_le w y) (ext_le _ _)) o3;have eT2:=(upd_ne R (rowI A3 n3 c3 row) (i:=(1,0)) (j:=(5,gn)) (by simp)).trans eT;have G3:=G2.grew (j:=(1,0)) eT2 hg' ho' hd' (Nat.le_refl _);have e03:=((upd_ne (upd R (5,gn) (rowI A3 n3 c3 row)) ⟨25,1,A',gn + 1,c',xs ++ [.slice A3 n3 c3]⟩ (i:=(9,0)) (j:=(1,0)) (by simp)).trans (upd_ne R (rowI A3 n3 c3 row) (i:=(9,0)) (j:=(5,gn)) (by simp))).trans e0;(obtain ⟨hk0,hkf0⟩:=G3.cell e03 0 _ rfl);(obtain ⟨hk1,hkf1⟩:=G3.cell e03 1 _ rfl)))
       all_goals
        have G4:=G3.store e03 0 (.slice A' (gn + 1) c');have hsz4 : ((ext w y').setCell ⟨(ext (w.alloc (.cells #[.slice none 0 0,.slice none 0 0] 31)) x1).heap.size + 1 + 1,0,none⟩ (.slice A' (gn + 1) c')).heap.size = (ext w y').heap.size:=by simp [World.setCell]
        rw [<- hsz4] at G4;obtain ⟨y3,hy3⟩:=ext_ex (show Below w.heap.size w ((ext w y').setCell ⟨(ext (w.alloc (.cells #[.slice none 0 0,.slice none 0 0] 31)) x1).heap.size + 1 + 1,0,none⟩ (.slice A' (gn + 1) c')) from bL);obtain ⟨xs2,eT3,hpush⟩:=tG.push (by decide) row A3 n3 c3;have hxs : xs2 = xs:=by rw [eT] at eT3;injection eT3 with _ _ _ _ _ h;exact h.symm
        subst hxs;go_roundw
        case rel=>exact ⟨k + 1,_,A',gn + 1,c',gg ++ [row],KA,kn,kc,kk,y3,Om,by go_num,hy3,G4,by simp [upd],by simp [upd,e1],by simp [upd,e2],(hpush A' c').of (by simp [upd]) (fun j=>by simp [upd]),tK.of (by simp [upd]) (fun j=>by simp [upd]),Om,⟨fun l hl=>(List.mem_append.1 hl).elim (HZ.out.1 l) (fun h=>by simp at h;subst h;exact hrl),HZ.out.2⟩,HN.out.symm⟩
        case measure=>simp [intOf];omega
      ·
       rw [if_neg (fun h=>hki h.2),if_neg (fun h=>hgc h.1)] at hstep;have hkI : ¬ (k : Int) < (n1 : Int) - 3:=Om;clear hg hki hgc;have HE:=Lib.hid (HNO.out hstep);clear hstep;go_wp2_with (first | (go_at_call 54;((with_reducible refine (csp _ bL).mono ?_);rintro e w' ⟨A2,n2,c2,x2,rfl,rfl,o2⟩;(have hl2:=o2.len);(obtain ⟨b2,rfl,hb2,hb2'⟩:=o2.form_ Om);(have hc0:=o2.cell_ 0 Om);(rw [HW.out] at hc0);(have hcap:=o2.cap_);(have hr1:=o2.rd.drop_ 1 Om);(rw [HT.out,Nat.zero_add] at hr1);(have hr0 : c2 = 1 -> RdT (ext (ext w y) x2) (some ⟨b2,0,none⟩) (n2 - 1) T:=fun e=>⟨by have:=hr1.len;simpa using this,fun h=>absurd h Om⟩);(have h1n : 1 <= n2:=Om);(have h1I : (1 : Int) <= n2:=Om))) | (go_at_call 130;((with_reducible refine (cin _ _ _ _ hr1 Om).mono ?_);rintro e w' ⟨A3,n3,c3,x3,rfl,rfl,o3⟩)) | (go_at_call 130;((with_reducible refine (cin _ _ _ _ (hr0 (by assumption)) Om).mono ?_);rintro e w' ⟨A3,n3,c3,x3,rfl,rfl,o3⟩)))
       all_goals
        refine bodyPost_ret (v:=.tuple #[.agg #[.slice none 0 0,.slice none 0 0],.bool false]) (by simp [results,Tryz.results90,go_sem,hz0,hz1,hs0,hs1]) rfl ?_;exact RetMkK.none_ HE.out bL
     ·
      have hgT : ¬ w0.toList = [103]:=by rw [Lib.toList_data];exact hg
      rw [if_neg (fun h=>hg h.1)] at hstep;by_cases hc : w0.data.toList = [99]
      ·
       have hcT : w0.toList = [99]:=by rw [Lib.toList_data];exact hc
       have hgT : ¬ ([99] : Str) = [103]:=by decide
       by_cases hki : n1 <= k + 3
       ·
        rw [if_pos ⟨hc,hki⟩] at hstep;have hkI : (n1 : Int) - 3 <= (k : Int):=Om;clear hg hc hki;have HN:=Lib.hid hstep;clear hstep;obtain ⟨xs,eT,_⟩:=tK.push (by decide) [] none 0 0;have hOwn:=hF.at_ eT;have hzr:=tK.2.2 kn (Nat.le_refl _);have hkb : kn <= 1099511627776:=Om;go_wp2_with (first | (go_at_call 54;((with_reducible refine (csp _ bL).mono ?_);rintro e w' ⟨A2,n2,c2,x2,rfl,rfl,o2⟩;(have hl2:=o2.len);(obtain ⟨b2,rfl,hb2,hb2'⟩:=o2.form_ Om);(have hc0:=o2.cell_ 0 Om);(rw [HW.out] at hc0);(have hcap:=o2.cap_);(have hr1:=o2.rd.drop_ 1 Om);(rw [HT.out,Nat.zero_add] at hr1);(have hr0 : c2 = 1 -> RdT (ext (ext w y) x2) (some ⟨b2,0,none⟩) (n2 - 1) T:=fun e=>⟨by have:=hr1.len;simpa using this,fun h=>absurd h Om⟩);(have h1n : 1 <= n2:=Om);(have h1I : (1 : Int) <= n2:=Om))) | (go_at_call 130;((with_reducible refine (cin _ _ _ _ hr1 Om).mono ?_);rintro e w' ⟨A3,n3,c3,x3,rfl,rfl,o3⟩)) | (go_at_call 130;((with_reducible refine (cin _ _ _ _ (hr0 (by assumption)) Om).mono ?_);rintro e w' ⟨A3,n3,c3,x3,rfl,rfl,o3⟩)) | (at_builtin;(refine wpl_push_row w _ _ _ _ _ ?_ rfl _ _ rfl KA kn kc _ rfl (Nat.le_refl _) ?_ hOwn ?_ ?_ rfl hkb ?_);(focus (first | rfl | (simp;done)));(focus (refine szOf ?_;exact bL));exact bL;exact bL;intro A' c' y' ho' hg' hd';have G1:=hF.below' (ext_below _ x2) (Nat.le_refl _);have G2:=G1.addI (j:=(6,kn)) hzr (ext_below _ x3) (Nat.le_refl _) (Nat.le_refl _) (Nat.le_trans (ext_le w y) (ext_le _ _)) o3;have eT2:=(upd_ne R (rowI A3 n3 c3 row) (i:=(2,0)) (j:=(6,kn)) (by simp)).trans eT;have G3:=G2.grew (j:=(2,0)) eT2 hg' ho' hd' (Nat.le_refl _);have e03:=((upd_ne (upd R (6,kn) (rowI A3 n3 c3 row)) ⟨25,1,A',kn + 1,c',xs ++ [.slice A3 n3 c3]⟩ (i:=(9,0)) (j:=(2,0)) (by simp)).trans (upd_ne R (rowI A3 n3 c3 row) (i:=(9,0)) (j:=(6,kn)) (by simp))).trans e0;(obtain ⟨hk0,hkf0⟩:=G3.cell e03 0 _ rfl);(obtain ⟨hk1,hkf1⟩:=G3.cell e03 1 _ rfl)))
        all_goals
         have G4:=G3.store e03 1 (.slice A' (kn + 1) c');have hsz4 : ((ext w y').setCell ⟨(ext (w.alloc (.cells #[.slice none 0 0,.slice none 0 0] 31)) x1).heap.size + 1 + 1,1,none⟩ (.slice A' (kn + 1) c')).heap.size = (ext w y').heap.size:=by simp [World.setCell]
         rw [<- hsz4] at G4;obtain ⟨y3,hy3⟩:=ext_ex (show Below w.heap.size w ((ext w y').setCell ⟨(ext (w.alloc (.cells #[.slice none 0 0,.slice none 0 0] 31)) x1).heap.size + 1 + 1,1,none⟩ (.slice A' (kn + 1) c')) from bL);obtain ⟨xs2,eT3,hpush⟩:=tK.push (by decide) row A3 n3 c3;have hxs : xs2 = xs:=by rw [eT] at eT3;injection eT3 with _ _ _ _ _ h;exact h.symm
         subst hxs;go_roundw
         case rel=>exact ⟨k + 1,_,GA,gn,gc,gg,A',kn + 1,c',kk ++ [row],y3,Om,by go_num,hy3,G4,by simp [upd],by simp [upd,e1],by simp [upd,e2],tG.of (by simp [upd]) (fun j=>by simp [upd]),(hpush A' c').of (by simp [upd]) (fun j=>by simp [upd]),Om,⟨HZ.out.1,fun l hl=>(List.mem_append.1 hl).elim (HZ.out.2 l) (fun h=>by simp at h;subst h;exact hrl)⟩,HN.out.symm⟩
         case measure=>simp [intOf];omega
       ·
        rw [if_neg (fun h=>hki h.2)] at hstep;have hkI : ¬ (n1 : Int) - 3 <= (k : Int):=Om;clear hg hc hki;have HE:=Lib.hid (HNO.out hstep);clear hstep;go_wp2_with (first | (go_at_call 54;((with_reducible refine (csp _ bL).mono ?_);rintro e w' ⟨A2,n2,c2,x2,rfl,rfl,o2⟩;(have hl2:=o2.len);(obtain ⟨b2,rfl,hb2,hb2'⟩:=o2.form_ Om);(have hc0:=o2.cell_ 0 Om);(rw [HW.out] at hc0);(have hcap:=o2.cap_);(have hr1:=o2.rd.drop_ 1 Om);(rw [HT.out,Nat.zero_add] at hr1);(have hr0 : c2 = 1 -> RdT (ext (ext w y) x2) (some ⟨b2,0,none⟩) (n2 - 1) T:=fun e=>⟨by have:=hr1.len;simpa using this,fun h=>absurd h Om⟩);(have h1n : 1 <= n2:=Om);(have h1I : (1 : Int) <= n2:=Om))) | (go_at_call 130;((with_reducible refine (cin _ _ _ _ hr1 Om).mono ?_);rintro e w' ⟨A3,n3,c3,x3,rfl,rfl,o3⟩)) | (go_at_call 130;((with_reducible refine (cin _ _ _ _ (hr0 (by assumption)) Om).mono ?_);rintro e w' ⟨A3,n3,c3,x3,rfl,rfl,o3⟩)))
        all_goals
         refine bodyPost_ret (v:=.tuple #[.agg #[.slice none 0 0,.slice none 0 0],.bool false]) (by simp [results,Tryz.results90,go_sem,hz0,hz1,hs0,hs1]) rfl ?_;exact RetMkK.none_ HE.out bL
      ·
       have hcT : ¬ w0.toList = [99]:=by rw [Lib.toList_data];exact hc
       ·
        rw [if_neg (fun h=>hc h.1)] at hstep;clear hg hc;have HE:=Lib.hid (HNO.out hstep);clear hstep;go_wp2_with (first | (go_at_call 54;((with_reducible refine (csp _ bL).mono ?_);rintro e w' ⟨A2,n2,c2,x2,rfl,rfl,o2⟩;(have hl2:=o2.len);(obtain ⟨b2,rfl,hb2,hb2'⟩:=o2.form_ Om);(have hc0:=o2.cell_ 0 Om);(rw [HW.out] at hc0);(have hcap:=o2.cap_);(have hr1:=o2.rd.drop_ 1 Om);(rw [HT.out,Nat.zero_add] at hr1);(have hr0 : c2 = 1 -> RdT (ext (ext w y) x2) (some ⟨b2,0,none⟩) (n2 - 1) T:=fun e=>⟨by have:=hr1.len;simpa using this,fun h=>absurd h Om⟩);(have h1n : 1 <= n2:=Om);(have h1I : (1 : Int) <= n2:=Om))) | (go_at_call 130;((with_reducible refine (cin _ _ _ _ hr1 Om).mono ?_);rintro e w' ⟨A3,n3,c3,x3,rfl,rfl,o3⟩)) | (go_at_call 130;((with_reducible refine (cin _ _ _ _ (hr0 (by assumption)) Om).mono ?_);rintro e w' ⟨A3,n3,c3,x3,rfl,rfl,o3⟩)))
        all_goals
         refine bodyPost_ret (v:=.tuple #[.agg #[.slice none 0 0,.slice none 0 0],.bool false]) (by simp [results,Tryz.results90,go_sem,hz0,hz1,hs0,hs1]) rfl ?_;exact RetMkK.none_ HE.out bL
   ·
    obtain rfl : k = n1:=Om;have hdr : mkRead k k (ls.drop k) gg kk = some (gg,kk):=by rw [List.drop_of_length_le (by rw [HN0.out];exact Nat.le_refl _)];rfl
    have HV:=Lib.hid (HAT.out gg kk (HR.out.symm.trans hdr));have hRd:=RdMk.of_len (tG.rd hF) (tK.rd hF) Om Om HZ.out;have hm0:=fun x2=>((hF.below' (ext_below _ x2) (Nat.le_refl _)).cell e0 0 _ rfl).1
    obtain ⟨hn0,_⟩:=hF.cell e0 0 _ rfl;obtain ⟨hn1,_⟩:=hF.cell e0 1 _ rfl;have hs0:=fun x2=>((hF.below' (ext_below _ x2) (Nat.le_refl _)).cell e1 0 _ rfl).1
    have hs1:=fun x2=>((hF.below' (ext_below _ x2) (Nat.le_refl _)).cell e1 1 _ rfl).1
    have hz0:=fun x2=>((hF.below' (ext_below _ x2) (Nat.le_refl _)).cell e1 0 _ rfl).2
    have hz1:=fun x2=>((hF.below' (ext_below _ x2) (Nat.le_refl _)).cell e1 1 _ rfl).2
    cases hq : marksB gg kk
    ·
     have ca:=fun W (h : Below (ext w y).heap.size (ext w y) W)=>asMarks_no W GA KA gn kn gc kc gg kk (hRd.below h) hq
     rw [hq] at HV;have HE:=Lib.hid (show pmR s.data.toList = none from HV.out);clear hdr HV hRd hq HR HAT HNO HLS;go_wp2_with ((go_at_call 133;((with_reducible refine ex (ca _ bL) ?_);intro x2)))
     refine bodyPost_ret (v:=.tuple #[.agg #[.slice none 0 0,.slice none 0 0],.bool false]) (by simp [results,Tryz.results90,go_sem,hz0,hz1,hs0,hs1]) rfl ?_;exact RetMkK.none_ HE.out bL
    ·
     have ca:=fun W (h : Below (ext w y).heap.size (ext w y) W)=>asMarks_yes W GA KA gn kn gc kc gg kk (hRd.below h) hq
     rw [hq] at HV;have HE:=Lib.hid (show pmR s.data.toList = some (gg,kk) from HV.out);clear hdr HV hRd hq HR HAT HNO HLS;go_wp2_with ((go_at_call 133;((with_reducible refine ex (ca _ bL) ?_);intro x2)))
     refine bodyPost_ret (v:=.tuple #[.agg #[.slice GA gn gc,.slice KA kn kc],.bool true]) (by simp [results,Tryz.results90,go_sem,hz0,hz1,hs0,hs1]) rfl ?_;have G3:=((hF.below' (ext_below _ x2) (Nat.le_refl _)).store e1 0 (.slice GA gn gc)).store (upd_same _ _ _) 1 (.slice KA kn kc);exact RetMkK.mk_ HE.out G3 (tG.of (by simp [upd]) (fun j=>by simp [upd])) (tK.of (by simp [upd]) (fun j=>by simp [upd])) (Nat.le_refl _) (by simp [World.setCell]) bL
end Go.Proofs.YtlfhhkgleapamaaGreatDoor
