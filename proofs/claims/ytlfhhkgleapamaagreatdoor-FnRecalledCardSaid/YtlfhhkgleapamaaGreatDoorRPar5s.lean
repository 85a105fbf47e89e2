/- Contracts: a protocol read from text, in the program. Conditions: strings below 2^20 bytes; the tables. -/
import Derived.Test.YtlfhhkgleapamaaGreatDoorRPar4x
import Derived.Test.YtlfhhkgleapamaaGreatDoorRTots
import Derived.Test.YtlfhhkgleapamaaGreatDoorRFors
set_option linter.unusedVariables false
set_option linter.unusedSimpArgs false
set_option maxRecDepth 100000
set_option maxHeartbeats 16000000
namespace Go.Proofs.YtlfhhkgleapamaaGreatDoor
open Go.RowKit
theorem bSetN {a w : World} (h : Below a.heap.size a w) {b o : Nat} {s : Option Nat} (hp : a.heap.size <= b) (u : Value) : Below a.heap.size a (w.setCell ⟨b,o,s⟩ u):=bSet h hp u
theorem bqq {n : Nat} {R W : World} (h : Below n R W:=by with_reducible repeat first | exact Below.refl _ _ | assumption | refine bSetN ?_ Om _ | refine bExt ?_ _ | refine bAlloc ?_ _ | refine bDrewN ?_ _ | refine bDrew ?_) : Below n R W:=h
def zPR : PR:=([],([],[]),(0,0,0),0,0)
def RetRd (w : World) (o : Option PR) (e : Ending) (w' : World) : Prop:=∃ I n c GA gn gc KA kn kc x R,e = .returned (.tuple #[.agg #[.slice I n c,.slice GA gn gc,.slice KA kn kc,.int .i64 (o.getD zPR).2.2.1.1,.int .i64 (o.getD zPR).2.2.1.2.1,.int .i64 (o.getD zPR).2.2.1.2.2],.int .i64 (o.getD zPR).2.2.2.1,.int .i64 (o.getD zPR).2.2.2.2,.bool o.isSome]) /\ w' = ext w x /\ Fo w.heap.size (ext w x).heap.size (ext w x) R /\ PfF R I n c (o.getD zPR).1 GA gn gc (o.getD zPR).2.1.1 KA kn kc (o.getD zPR).2.1.2
theorem Fo.setLow {b hi g k : Nat} {w : World} {R : Fam} {v : Value} (h : Fo b hi w R) (hg : g < b) : Fo b hi (w.setCell ⟨g,k,none⟩ v) R :=
 ⟨fun j=>(h.1 j).kept (gSetM w g k v) (by
  cases hz : blkOf (R j).A with
  | none=>exact .inl rfl
  | some z=>exact .inr fun e=>by have:=(Ow.blk (h.1 j) hz).1;injection e with e;omega),h.2⟩
def famP : Fam:=fun i=>if i.1 = 0 then famI i else famM i
theorem famP_fo {b hi : Nat} {w : World} : Fo b hi w famP:=by
 refine ⟨fun j=>?_,fun i j hij=>.inl ?_,fun j z hz=>?_⟩
 ·
  unfold famP
  split
  ·
   exact (famI_fo (b:=b) (hi:=hi) (w:=w)).1 j
  ·
   exact (famM_fo (b:=b) (hi:=hi) (w:=w)).1 j
 ·
  unfold famP famI famM upd famN
  split
  ·
   split <;> rfl
  ·
   split
   ·
    rfl
   ·
    split <;> rfl
 ·
  have : blkOf (famP j).A = none:=by
   unfold famP famI famM upd famN
   split
   ·
    split <;> rfl
   ·
    split
    ·
     rfl
    ·
     split <;> rfl
  rw [this] at hz;cases hz
theorem famP_pf : PfF famP none 0 0 [] none 0 0 [] none 0 0 [] :=
 ⟨⟨rfl,⟨[],rfl,by simp [famP,famI,upd];rfl,fun j hj=>absurd hj Om⟩,fun j _=>by simp [famP,famM,upd,famN]⟩,
  ⟨rfl,⟨fun _=>none,fun _=>0,fun _=>0,by simp [famP,famM,upd],fun j hj=>absurd hj Om⟩,fun j _=>by simp [famP,famM,upd,famN]⟩,
  ⟨rfl,⟨fun _=>none,fun _=>0,fun _=>0,by simp [famP,famM,upd],fun j hj=>absurd hj Om⟩,fun j _=>by simp [famP,famM,upd,famN]⟩⟩
theorem RetRd.none_ {w W : World} {o : Option PR} (h : o = none) (hb : Below w.heap.size w W) : RetRd w o (.returned (.tuple #[.agg #[.slice none 0 0,.slice none 0 0,.slice none 0 0,.int .i64 0,.int .i64 0,.int .i64 0],.int .i64 0,.int .i64 0,.bool false])) W:=by
 subst h;obtain ⟨x,rfl⟩:=ext_ex hb;exact ⟨none,0,0,none,0,0,none,0,0,x,famP,rfl,rfl,famP_fo,famP_pf⟩
theorem RetRd.mk_ {w W : World} {o : Option PR} {its : List It} {gg kk : List (List Int)} {s1 s2 s3 sk fa : Int} {b hi : Nat} {R : Fam} {I GA KA : OA} {n c gn gc kn kc : Nat} (h : o = some (its,(gg,kk),(s1,s2,s3),sk,fa)) (hF : Fo b hi W R) (hP : PfF R I n c its GA gn gc gg KA kn kc kk) (hbase : w.heap.size <= b) (hhi : hi <= W.heap.size) (hb : Below w.heap.size w W) :
  RetRd w o (.returned (.tuple #[.agg #[.slice I n c,.slice GA gn gc,.slice KA kn kc,.int .i64 s1,.int .i64 s2,.int .i64 s3],.int .i64 sk,.int .i64 fa,.bool true])) W:=by
 subst h;obtain ⟨x,rfl⟩:=ext_ex hb;exact ⟨I,n,c,GA,gn,gc,KA,kn,kc,x,R,rfl,rfl,hF.mono hbase hhi,hP⟩
def imB (hd : Str) (oW : Option (List Int)) (oI : Option (List It)) (oM : Option MM) (fnd : Bool) (oS : Option SL) : Option PR:=match oW,oI,oM,oS with
 | some [sk,fa],some its,some m,some sl=>if hd = wPro /\ fnd = true then some (its,m,sl,sk,fa) else none
 | _,_,_,_=>none
theorem imR2_imB (ls : List Str) : imR2 ls = imB (wHd (ls[0]?.getD [])) (oAll intR (spl 32 (ls[0]?.getD [])).tail) (oAll itLn (lsIt ls)) (pmR (Lib.join (lsMk ls) [10] ++ [10])) (Lib.hasPrefix (lsSl ls) (wSli ++ [32])) (slR (Lib.trimPrefix (lsSl ls) (wSli ++ [32]))):=rfl
theorem imB_hd {hd : Str} {oW : Option (List Int)} {oI : Option (List It)} {oM : Option MM} {fnd : Bool} {oS : Option SL} (h : ¬ hd = wPro) : imB hd oW oI oM fnd oS = none:=by
 unfold imB
 split
 ·
  rw [if_neg (fun e=>h e.1)]
 ·
  rfl
theorem imB_W {hd : Str} {oW : Option (List Int)} {oI : Option (List It)} {oM : Option MM} {fnd : Bool} {oS : Option SL} (h : (oW.isSome && decide (((oW.getD []).length : Int) = 2)) = false) : imB hd oW oI oM fnd oS = none:=by
 unfold imB
 split
 ·
  simp at h
 ·
  rfl
theorem imB_I {hd : Str} {oW : Option (List Int)} {oM : Option MM} {fnd : Bool} {oS : Option SL} : imB hd oW none oM fnd oS = none:=by
 rcases oW with _ | (_ | ⟨x,_ | ⟨y,_ | r⟩⟩) <;> rfl
theorem imB_M {hd : Str} {oW : Option (List Int)} {oI : Option (List It)} {fnd : Bool} {oS : Option SL} : imB hd oW oI none fnd oS = none:=by
 rcases oW with _ | (_ | ⟨x,_ | ⟨y,_ | r⟩⟩) <;> rcases oI with _ | l <;> rfl
theorem imB_f {hd : Str} {oW : Option (List Int)} {oI : Option (List It)} {oM : Option MM} {oS : Option SL} : imB hd oW oI oM false oS = none:=by
 unfold imB
 split
 ·
  rw [if_neg (fun e=>by cases e.2)]
 ·
  rfl
theorem imB_S {hd : Str} {oW : Option (List Int)} {oI : Option (List It)} {oM : Option MM} {fnd : Bool} : imB hd oW oI oM fnd none = none:=by
 unfold imB
 split
 ·
  rename_i h;cases h
 ·
  rfl
theorem two_of {oW : Option (List Int)} (h : (oW.isSome && decide (((oW.getD []).length : Int) = 2)) = true) : ∃ a b,oW = some [a,b]:=by
 match oW,h with
 | some [a,b],_=>exact ⟨a,b,rfl⟩
 | some [],h=>simp at h
 | some [_],h=>simp at h
 | some (_ :: _ :: _ :: r),h=>simp at h;omega
theorem join_le (c : UInt8) : ∀ xs : List Str,(Lib.join xs [c]).length <= (xs.map (fun x=>x.length + 1)).sum
 | []=>by simp [Lib.join]
 | a :: r=>by
  rw [Lib.join_cons];have h : ∀ r : List Str,(Lib.joinTail [c] r).length = (r.map (fun x=>x.length + 1)).sum:=by
   intro r
   induction r with
   | nil=>rfl
   | cons b t ih =>
    have : Lib.joinTail [c] (b :: t) = c :: (b ++ Lib.joinTail [c] t):=by simp [Lib.joinTail]
    rw [this];simp only [List.length_cons,List.length_append,List.map_cons,List.sum_cons,ih];omega
  rw [List.length_append,h];simp only [List.map_cons,List.sum_cons];omega
theorem sum_take {xs : List Str} (j : Nat) : ((xs.take j).map (fun x=>x.length + 1)).sum <= (xs.map (fun x=>x.length + 1)).sum:=by
 conv=>rhs;rw [<- List.take_append_drop j xs,List.map_append,List.sum_append]
 omega
theorem sum_drop {xs : List Str} (j : Nat) : ((xs.drop j).map (fun x=>x.length + 1)).sum <= (xs.map (fun x=>x.length + 1)).sum:=by
 conv=>rhs;rw [<- List.take_append_drop j xs,List.map_append,List.sum_append]
 omega
theorem lns_sum {s : Str} {ls : List Str} (h : linesR s = some ls) : (ls.map (fun x=>x.length + 1)).sum <= s.length:=by
 unfold linesR at h
 split at h
 ·
  injection h with h;subst h;simp
 ·
  rename_i hne
  split at h
  ·
   injection h with h;subst h;rw [spl_sum,List.length_dropLast];have : s.length ≠ 0:=fun e=>hne (List.eq_nil_of_length_eq_zero e)
   omega
  ·
   cases h
theorem len_sum (xs : List Str) : xs.length <= (xs.map (fun x=>x.length + 1)).sum:=by
 induction xs with
 | nil=>simp
 | cons a r ih=>simp only [List.length_cons,List.map_cons,List.sum_cons];omega
theorem mk_join_le {s : Str} {ls : List Str} (h : linesR s = some ls) : (Lib.join (lsMk ls) [10]).length <= s.length:=by
 refine Nat.le_trans (join_le 10 _) (Nat.le_trans ?_ (lns_sum h));unfold lsMk;exact Nat.le_trans (sum_take _) (sum_drop _)
theorem RdT.cells {w : World} {b off n : Nat} {l : List ByteArray} (h : RdT w (some ⟨b,off,none⟩) n l) (hn : 0 < n) : b < w.heap.size /\ ∀ (j : Nat) x,l[j]? = some x -> w.cell? ⟨b,off + j,none⟩ = some (.string x):=by
 obtain ⟨b2,off2,e,hlt,hc⟩:=h.2 hn;injection e with e;injection e with e1 e2;subst e1 e2;exact ⟨hlt,fun j x hx=>hc j _ (by rw [List.getElem?_map,hx];rfl)⟩
theorem item_small {it : It} (h : itemB it = true) : itSmall it:=by
 have h2:=item_of h;simp only [itemB,namesB,Bool.and_eq_true] at h;refine ⟨Om,Om,fun x hx=>?_⟩;have h3:=List.all_eq_true.1 h.1 x hx;simp only [nameB,Bool.and_eq_true] at h3;have:=inB_iff.1 h3.2;omega
theorem marks_rows9 {gg kk : List (List Int)} (h : marksB gg kk = true) : (∀ l ∈ gg,l.length <= 2000001) /\ (∀ l ∈ kk,l.length <= 2000001):=by
 have hm:=marksB_of h;refine ⟨fun l hl=>?_,fun l hl=>?_⟩
 ·
  obtain ⟨k,hk,rfl⟩:=List.getElem_of_mem hl;have:=(hm.2.2.2 k hk).1;rw [List.getElem?_eq_getElem hk] at this;simp only [Option.getD_some] at this;omega
 ·
  simp only [marksB,Bool.and_eq_true] at h;have h2:=List.all_eq_true.1 h.2.1.2 l hl;simp only [cRowB,Bool.and_eq_true,decide_eq_true_eq] at h2;omega
theorem oAll_mem {α β : Type} {f : α -> Option β} : ∀ {l : List α} {o : List β},oAll f l = some o -> ∀ b ∈ o,∃ a,a ∈ l /\ f a = some b
 | [],o,h,b,hb=>by simp only [oAll,Option.some.injEq] at h;subst h;simp at hb
 | x :: r,o,h,b,hb=>by
  rw [oAll] at h
  cases hx : f x with
  | none=>rw [hx] at h;cases h
  | some y =>
   rw [hx] at h
   cases hr : oAll f r with
   | none=>simp only [hr] at h;cases h
   | some t =>
    simp only [hr,Option.some.injEq] at h;subst h
    rcases List.mem_cons.1 hb with rfl | hb
    ·
     exact ⟨x,by simp,hx⟩
    ·
     obtain ⟨a,ha,e⟩:=oAll_mem hr b hb;exact ⟨a,by simp [ha],e⟩
theorem itLn_good {l : Str} {it : It} (h : itLn l = some it) : itemB it = true:=by
 unfold itLn at h
 split at h
 ·
  unfold itR at h
  split at h
  ·
   rename_i hb;injection h with h;rw [<- h];exact hb
  ·
   cases h
 ·
  cases h
theorem pmR_good {s : Str} {m : MM} (h : pmR s = some m) : marksB m.1 m.2 = true:=by
 unfold pmR at h
 split at h
 ·
  cases h
 ·
  split at h
  ·
   split at h
   ·
    cases h
   ·
    split at h
    ·
     rename_i hb;injection h with h;rw [<- h];exact hb
    ·
     cases h
  ·
   cases h
theorem map_bs_inj (ls : List Str) : (ls.map bs).map (·.data.toList) = ls:=map_data_bs ls
theorem imR_lines {s : Str} (h : linesR s = none) : imR s = none:=by unfold imR;rw [h]
theorem imR_small {s : Str} {ls : List Str} (h : linesR s = some ls) (hl : ¬ (6 <= ls.length /\ s.length <= 4000)) : imR s = none:=by unfold imR;rw [h];simp only;rw [if_neg hl]
theorem imR_main {s : Str} {ls : List Str} (h : linesR s = some ls) (hl : 6 <= ls.length /\ s.length <= 4000) : imR s = imR2 ls:=by unfold imR;rw [h];simp only;rw [if_pos hl]
theorem readProtocol_any (w : World) (A B : OA) (n m c d : Nat) (els : List El) (lims : List Int) (q0 q1 q2 q3 : Int) (hc : CodeR w A n B m els lims) (s : ByteArray) (hs : s.size <= 1048576) (hM : Mxl w) (hTab : Tab w) (hSg : Sgn w) :
  Calls Tryz.prog 45 #[.agg #[.slice A n c,.slice B m d,.int .i64 q0,.int .i64 q1,.int .i64 q2,.int .i64 q3],.string s] w (RetRd w (accP els lims q0 q1 q2 q3 s (imR s.data.toList))):=by
 have hM':=fun W (h : Below w.heap.size w W)=>hM.below h
 have cl:=fun W (h : Below w.heap.size w W)=>linesOf_any s W Om (hM' W h)
 cases hr : linesR s.data.toList with
 | none =>
  have HE : Hid (accP els lims q0 q1 q2 q3 s (imR s.data.toList) = none):=by unfold Hid;rw [imR_lines hr];rfl
  have hk : lnsK s = false:=by unfold lnsK;rw [hr];rfl
  rw [hk] at cl;clear hk hr hM;generalize lnsO s = lo at *;go_enter Tryz.func45,Tryz.ntmps45;go_wp2_with ((go_at_call 87;((with_reducible refine (cl _ bL).mono ?_);rintro e w' ⟨A1,n1,c1,x1,rfl,rfl,o1⟩)))
  refine bodyPost_ret (v:=.tuple #[.agg #[.slice none 0 0,.slice none 0 0,.slice none 0 0,.int .i64 0,.int .i64 0,.int .i64 0],.int .i64 0,.int .i64 0,.bool false]) (by simp [results,Tryz.results45,go_sem]) rfl ?_;exact RetRd.none_ HE.out bqq
 | some ls =>
  have hk : lnsK s = true:=by unfold lnsK;rw [hr];rfl
  have hlo:=lnsO_some hr;have hzz:=lns_sz hr;rw [hk,hlo] at cl;clear hk hlo hM;have hlm : (ls.map bs).length = ls.length:=List.length_map ..;have HLM:=Lib.hid hlm;by_cases hl : ¬ (6 <= ls.length /\ s.data.toList.length <= 4000)
  ·
   have HE : Hid (accP els lims q0 q1 q2 q3 s (imR s.data.toList) = none):=by unfold Hid;rw [imR_small hr hl];rfl
   rw [<- Lib.size_eq] at hl;clear hr hzz;generalize ls.map bs = lb at *;obtain ⟨n0,hn0⟩ : ∃ n0,ls.length = n0:=⟨_,rfl⟩;rw [hn0] at HLM hl;clear hlm hn0;by_cases hz : 4000 < s.size
   ·
    have hzI : (4000 : Int) < s.size:=Om;go_enter Tryz.func45,Tryz.ntmps45;go_wp2_with ((go_at_call 87;((with_reducible refine (cl _ bL).mono ?_);rintro e w' ⟨A1,n1,c1,x1,rfl,rfl,o1⟩;(obtain rfl : n1 = n0:=o1.len.symm.trans HLM.out))))
    refine bodyPost_ret (v:=.tuple #[.agg #[.slice none 0 0,.slice none 0 0,.slice none 0 0,.int .i64 0,.int .i64 0,.int .i64 0],.int .i64 0,.int .i64 0,.bool false]) (by simp [results,Tryz.results45,go_sem]) rfl ?_;exact RetRd.none_ HE.out bqq
   ·
    have hzI : ¬ (4000 : Int) < s.size:=Om;have h6I : (n0 : Int) < 6:=Om;clear hl;go_enter Tryz.func45,Tryz.ntmps45;go_wp2_with ((go_at_call 87;((with_reducible refine (cl _ bL).mono ?_);rintro e w' ⟨A1,n1,c1,x1,rfl,rfl,o1⟩;(obtain rfl : n1 = n0:=o1.len.symm.trans HLM.out))))
    refine bodyPost_ret (v:=.tuple #[.agg #[.slice none 0 0,.slice none 0 0,.slice none 0 0,.int .i64 0,.int .i64 0,.int .i64 0],.int .i64 0,.int .i64 0,.bool false]) (by simp [results,Tryz.results45,go_sem]) rfl ?_;exact RetRd.none_ HE.out bqq
  have hl:=Classical.not_not.1 hl;have hmn:=imR_main hr hl;rw [imR2_imB] at hmn;have hjl:=mk_join_le hr;have hln:=Nat.le_trans (len_sum ls) (lns_sum hr);have hlz : ∀ x ∈ ls.map bs,x.size <= 1048576:=fun x hx=>by
   obtain ⟨z,hz,rfl⟩:=List.mem_map.1 hx;rw [Lib.size_eq,bs_data];have:=hzz z hz;rw [<- Lib.size_eq] at this;omega
  rw [<- Lib.size_eq] at hjl hl hln;have hbs : ∀ j,j < ls.length -> (ls.map bs)[j]?.getD ByteArray.empty = bs (ls[j]?.getD []):=fun j hj=>by simp [hj]
  have h0:=hbs 0 Om;have hd0 : ls[0]?.getD [] = ((ls.map bs)[0]?.getD ByteArray.empty).data.toList:=by rw [h0,bs_data]
  have hm2:=hbs (ls.length - 2) Om;have hdm : lsSl ls = ((ls.map bs)[ls.length - 2]?.getD ByteArray.empty).data.toList:=by rw [hm2,bs_data];rfl
  have hwh : wHd (ls[0]?.getD []) = ((spls 32 ((ls.map bs)[0]?.getD ByteArray.empty))[0]?.getD ByteArray.empty).data.toList:=by rw [hd0];exact spl_head _
  rw [hwh,hd0,spl_tail,hdm] at hmn;have hIt : lsIt ls = (((ls.map bs).drop 1).take ((ls.length - 6) / 2)).map (·.data.toList):=by
   unfold lsIt;rw [List.map_take,List.map_drop,map_bs_inj]
  have hMk : lsMk ls = (((ls.map bs).drop (1 + (ls.length - 6) / 2)).take (ls.length - 2 - (1 + (ls.length - 6) / 2))).map (·.data.toList):=by
   unfold lsMk;rw [List.map_take,List.map_drop,map_bs_inj]
  rw [hIt,hMk] at hmn;rw [hMk] at hjl;have hl0z:=hlz _ (getD_mem ByteArray.empty (ls.map bs) 0 Om);have hlmz:=hlz _ (getD_mem ByteArray.empty (ls.map bs) (ls.length - 2) Om);clear hwh hd0 hIt hMk hdm h0 hm2 hbs hzz hr hlm;generalize ls.map bs = lb at *;obtain ⟨n0,hn0⟩ : ∃ n0,ls.length = n0:=⟨_,rfl⟩;rw [hn0] at HLM hl hmn hjl hlmz hln;clear hn0;obtain ⟨N,hN⟩ : ∃ N,(n0 - 6) / 2 = N:=⟨_,rfl⟩;rw [hN] at hmn hjl;have hN2 : 2 * N <= n0 - 6:=Om;have hqI : Int.tdiv ((n0 - 6 : Nat) : Int) 2 = N:=by rw [Int.tdiv_eq_ediv_of_nonneg Om];omega
  clear hN;have cW:=fun W (h : Below w.heap.size w W)=>wordsAndNumbers_any (lb[0]?.getD ByteArray.empty) 2 W Om (hM' W h)
  unfold intsO intsK at cW;have cI:=fun W (h : Below w.heap.size w W) (A : OA) (c : Nat) (hr : RdT W A N ((lb.drop 1).take N))=>readItems_any W A N c _ hr Om (fun x hx=>Nat.le_trans (hlz x (List.mem_of_mem_drop (List.mem_of_mem_take hx))) Om) (hM' W h) (hSg.below h)
  generalize hXM : (lb.drop (1 + N)).take (n0 - 2 - (1 + N)) = XM at *;have hlXM : XM.length = n0 - 2 - (1 + N):=by rw [<- hXM,List.length_take,List.length_drop,HLM.out];omega
  have HXM:=Lib.hid hXM;clear hXM;have hl10 : (⟨#[10]⟩ : ByteArray).data.toList = [10]:=rfl;have cJ:=fun W (bk o cc : Nat) (hcl : ∀ (j : Nat) x,XM[j]? = some x -> W.cell? ⟨bk,o + j,none⟩ = some (.string x)) (hbk : bk < W.heap.size) (hcap : XM.length <= cc)=>Tryz.strings_Join bk o cc XM ⟨#[10]⟩ W hcl hbk Om hcap (by rw [hl10];omega)
  rw [hl10,hlXM] at cJ;have hnM : 0 < n0 - 2 - (1 + N):=Om;have hjz : (Lib.join (XM.map (·.data.toList)) [10]).length <= 4000:=Om;generalize Lib.join (XM.map (·.data.toList)) [10] = J at *;have hJ1 : (⟨J.toArray⟩ : ByteArray).size <= 4000:=by rw [Lib.size_eq];simpa using hjz
  have hJ2 : ((⟨J.toArray⟩ : ByteArray) ++ ⟨#[10]⟩).data.toList = J ++ [10]:=by rw [ba_app]
  have hJf : Fit ((⟨J.toArray⟩ : ByteArray) ++ ⟨#[10]⟩):=by unfold Fit;rw [Lib.size_eq,hJ2,List.length_append];simp only [List.length_cons,List.length_nil];rw [Lib.size_eq] at hJ1;simp only [List.toList_toArray] at hJ1;omega
  have cM:=fun W (h : Below w.heap.size w W)=>parseMarks_any ((⟨J.toArray⟩ : ByteArray) ++ ⟨#[10]⟩) W (by rw [Lib.size_eq,hJ2,List.length_append];simp only [List.length_cons,List.length_nil];rw [Lib.size_eq] at hJ1;simp only [List.toList_toArray] at hJ1;omega) (hM' W h)
  rw [hJ2] at cM;have hl6 : (⟨#[115,108,105,112,115,32]⟩ : ByteArray).data.toList = wSli ++ [32]:=rfl;have cP:=fun W=>Tryz.strings_CutPrefix (lb[n0 - 2]?.getD ByteArray.empty) ⟨#[115,108,105,112,115,32]⟩ W
  rw [hl6] at cP;have htl : ∀ l p : Str,(Lib.trimPrefix l p).length <= l.length:=fun l p=>by unfold Lib.trimPrefix;split <;> simp
  have cS:=fun W (h : Below w.heap.size w W)=>parseSlips_any (⟨(Lib.trimPrefix (lb[n0 - 2]?.getD ByteArray.empty).data.toList (wSli ++ [32])).toArray⟩ : ByteArray) W (by
   rw [Lib.size_eq];have:=htl (lb[n0 - 2]?.getD ByteArray.empty).data.toList (wSli ++ [32]);rw [<- Lib.size_eq] at this;simp only [List.toList_toArray];omega) (hM' W h)
  simp only [List.toList_toArray] at cS;have HL0 : Hid (lb[0]?.getD ByteArray.empty = lb[0]?.getD ByteArray.empty):=rfl;obtain ⟨l0,hl0⟩ : ∃ l0,lb[0]?.getD ByteArray.empty = l0:=⟨_,rfl⟩;obtain ⟨lm,hlm⟩ : ∃ lm,lb[n0 - 2]?.getD ByteArray.empty = lm:=⟨_,rfl⟩;rw [hl0] at cW hmn;rw [hlm] at cP cS hmn;have HL0:=Lib.hid hl0;have HLm:=Lib.hid hlm;have HIs : ∀ its,oAll itLn (((lb.drop 1).take N).map (·.data.toList)) = some its -> its.length <= N /\ ∀ it ∈ its,itemB it = true:=fun its h=>by
   refine ⟨?_,fun it hit=>?_⟩
   ·
    have:=oAll_len h;rw [List.length_map,List.length_take] at this;omega
   ·
    obtain ⟨a,_,e⟩:=oAll_mem h it hit;exact itLn_good e
  have HMs : ∀ m,pmR (J ++ [10]) = some m -> marksB m.1 m.2 = true:=fun m h=>pmR_good h
  generalize (spls 32 l0)[0]?.getD ByteArray.empty = w0 at *;generalize oAll intR (((spls 32 l0).drop 1).map (·.data.toList)) = oW at *;generalize oAll itLn (((lb.drop 1).take N).map (·.data.toList)) = oI at *;generalize pmR (J ++ [10]) = oM at *;generalize slR (Lib.trimPrefix lm.data.toList (wSli ++ [32])) = oS at *;generalize Lib.trimPrefix lm.data.toList (wSli ++ [32]) = txt at *;generalize Lib.hasPrefix lm.data.toList (wSli ++ [32]) = fnd at *;clear hlz hjl hl0z hlmz hl0 hlm hl10 hl6 htl hJ1 hjz;have e6 : IntKind.i64.wrap ((n0 : Int) - 6) = ((n0 - 6 : Nat) : Int):=by rw [IntWalk.i64_in _ Om];omega
  have e2 : IntKind.i64.wrap ((n0 : Int) - 2) = ((n0 - 2 : Nat) : Int):=by rw [IntWalk.i64_in _ Om];omega
  have eN : IntKind.i64.wrap (N : Int) = N:=IntWalk.i64_in _ Om;have e1 : IntKind.i64.wrap (1 + (N : Int)) = ((1 + N : Nat) : Int):=by rw [IntWalk.i64_in _ Om];omega
  have hsI : ¬ (4000 : Int) < s.size:=Om;have h6I : ¬ (n0 : Int) < 6:=Om;have hiN : (1 + N : Nat) <= n0 - 2:=Om;have hw5 : wPro = [112,114,111,116,111,99,111,108]:=rfl;by_cases hok : ¬ (w0.toList = [112,114,111,116,111,99,111,108] /\ (oW.isNone = false /\ ((oW.getD []).length : Int) = 2) /\ oI.isNone = false /\ oM.isNone = false /\ fnd = true /\ oS.isNone = false)
  ·
   have HE : Hid (accP els lims q0 q1 q2 q3 s (imR s.data.toList) = none):=by
    unfold Hid;rw [hmn];have : imB w0.data.toList oW oI oM fnd oS = none:=by
     by_cases h1 : w0.data.toList = wPro
     ·
      by_cases h2 : (oW.isSome && decide (((oW.getD []).length : Int) = 2)) = true
      ·
       cases oI with
       | none=>exact imB_I
       | some _ =>
        cases oM with
        | none=>exact imB_M
        | some _ =>
         cases fnd with
         | false=>exact imB_f
         | true =>
          cases oS with
          | none=>exact imB_S
          | some _ =>
           refine absurd ⟨by rw [Lib.toList_data,h1,hw5],?_,rfl,rfl,rfl,rfl⟩ hok
           cases oW with
           | none=>simp at h2
           | some l=>simp at h2;exact ⟨rfl,by simpa using h2⟩
      ·
       exact imB_W (Bool.eq_false_iff.2 h2)
     ·
      exact imB_hd h1
    rw [this];rfl
   clear hmn hw5;go_enter Tryz.func45,Tryz.ntmps45;go_wp2_with (first | (go_at_call 87;((with_reducible refine (cl _ bqq).mono ?_);rintro e w' ⟨A1,n1,c1,x1,rfl,rfl,o1⟩;(obtain rfl : n1 = n0:=o1.len.symm.trans HLM.out);(obtain ⟨b1,rfl,hb1,hb2⟩:=o1.form_ Om);(have hk0:=o1.cell_ 0 Om);(rw [HL0.out] at hk0);(have hkm:=o1.cell_ (n1 - 2) Om);(rw [HLm.out] at hkm);(have hcap:=o1.cap_);(have rI:=(o1.rd.drop_ 1 Om).take_ N Om);(have rM:=(o1.rd.drop_ (1 + N) Om).take_ (n1 - 2 - (1 + N)) Om);(rw [HXM.out,Nat.zero_add] at rM);(rw [Nat.zero_add] at rI);(have hc1 : ¬ c1 = 1:=Om);(have hc2 : ¬ c1 = 1 + N:=Om))) | (go_at_call 88;((with_reducible refine (cW _ bqq).mono ?_);rintro e w' ⟨A2,n2,c2,x2,rfl,rfl,o2⟩)) | (go_at_call 89;((with_reducible refine (cI _ bqq _ _ (rI.below bqq)).mono ?_);rintro e w' ⟨I,n3,c3,x3,R3,rfl,rfl,F3,i3⟩)) | (go_at_call 91;((with_reducible refine (cJ _ _ _ _ (RdT.cells (rM.below bqq) hnM).2 (RdT.cells (rM.below bqq) hnM).1 Om).mono ?_);rintro e w' ⟨rfl,bel4⟩;(obtain ⟨x4,rfl⟩:=ext_ex bel4);clear bel4)) | (go_at_call 90;((with_reducible refine (cM _ bqq).mono ?_);rintro e w' ⟨GA,gn,gc,KA,kn,kc,x5,R5,rfl,rfl,F5,g5,k5⟩)) | (go_at_call 92;((with_reducible refine (cP _).mono ?_);rintro e w' ⟨rfl,rfl⟩)) | (go_at_call 93;((with_reducible refine (cS _ bqq).mono ?_);rintro e w' ⟨rfl,x6,rfl⟩)))
   all_goals
    have hBR : Below ((w.alloc (.cells #[.slice A n c,.slice B m d,.int .i64 q0,.int .i64 q1,.int .i64 q2,.int .i64 q3] 27)).alloc (.cells #[.slice none 0 0,.slice none 0 0,.slice none 0 0,.int .i64 0,.int .i64 0,.int .i64 0] 35)).heap.size ((w.alloc (.cells #[.slice A n c,.slice B m d,.int .i64 q0,.int .i64 q1,.int .i64 q2,.int .i64 q3] 27)).alloc (.cells #[.slice none 0 0,.slice none 0 0,.slice none 0 0,.int .i64 0,.int .i64 0,.int .i64 0] 35)) (ext ((ext (ext (ext (ext (ext ((w.alloc (.cells #[.slice A n c,.slice B m d,.int .i64 q0,.int .i64 q1,.int .i64 q2,.int .i64 q3] 27)).alloc (.cells #[.slice none 0 0,.slice none 0 0,.slice none 0 0,.int .i64 0,.int .i64 0,.int .i64 0] 35)) x1) x2) x3) x4) x5).alloc (.cells #[.slice GA gn gc,.slice KA kn kc] 31)) x6):=bqq;have hBw : Below w.heap.size w (ext ((ext (ext (ext (ext (ext ((w.alloc (.cells #[.slice A n c,.slice B m d,.int .i64 q0,.int .i64 q1,.int .i64 q2,.int .i64 q3] 27)).alloc (.cells #[.slice none 0 0,.slice none 0 0,.slice none 0 0,.int .i64 0,.int .i64 0,.int .i64 0] 35)) x1) x2) x3) x4) x5).alloc (.cells #[.slice GA gn gc,.slice KA kn kc] 31)) x6):=bqq;generalize hWBe : (ext ((ext (ext (ext (ext (ext ((w.alloc (.cells #[.slice A n c,.slice B m d,.int .i64 q0,.int .i64 q1,.int .i64 q2,.int .i64 q3] 27)).alloc (.cells #[.slice none 0 0,.slice none 0 0,.slice none 0 0,.int .i64 0,.int .i64 0,.int .i64 0] 35)) x1) x2) x3) x4) x5).alloc (.cells #[.slice GA gn gc,.slice KA kn kc] 31)) x6) = WB at hBR hBw ⊢;have z0:=(hBR.cell (p:=⟨w.heap.size + 1,0,none⟩) Sg).trans (show _ = some (.slice none 0 0) from by simp [go_sem]);have z1:=(hBR.cell (p:=⟨w.heap.size + 1,1,none⟩) Sg).trans (show _ = some (.slice none 0 0) from by simp [go_sem]);have z2:=(hBR.cell (p:=⟨w.heap.size + 1,2,none⟩) Sg).trans (show _ = some (.slice none 0 0) from by simp [go_sem]);have z3:=(hBR.cell (p:=⟨w.heap.size + 1,3,none⟩) Sg).trans (show _ = some (.int .i64 0) from by simp [go_sem]);have z4:=(hBR.cell (p:=⟨w.heap.size + 1,4,none⟩) Sg).trans (show _ = some (.int .i64 0) from by simp [go_sem]);have z5:=(hBR.cell (p:=⟨w.heap.size + 1,5,none⟩) Sg).trans (show _ = some (.int .i64 0) from by simp [go_sem]);have zlt : w.heap.size + 1 < WB.heap.size:=by have h:=hBR.size;simp [go_sem] at h;omega
    have zne : ¬ (w.heap.size + 1 = WB.heap.size):=Om;clear hBR hWBe
    first
    | (
      refine bodyPost_ret (v:=.tuple #[.agg #[.slice none 0 0,.slice none 0 0,.slice none 0 0,.int .i64 0,.int .i64 0,.int .i64 0],.int .i64 0,.int .i64 0,.bool false]) (by simp [results,Tryz.results45,go_sem,z0,z1,z2,z3,z4,z5,zlt,zne]) rfl ?_;exact RetRd.none_ HE.out bqq)
    | (
      exfalso
      exact hok ⟨by assumption,by assumption,by assumption,by assumption,by assumption,by assumption⟩)
  obtain ⟨hW0,⟨hWn,hW2⟩,hIn,hMn,rfl,hSn⟩:=Classical.not_not.1 hok;clear hok;obtain ⟨sk,fa,rfl⟩:=two_of (oW:=oW) (by cases oW with | none=>cases hWn | some l=>simp at hW2 ⊢;exact hW2);obtain ⟨its,rfl⟩ : ∃ its,oI = some its:=by cases oI with | none=>cases hIn | some l=>exact ⟨l,rfl⟩
  obtain ⟨⟨gg,kk⟩,rfl⟩ : ∃ m,oM = some m:=by cases oM with | none=>cases hMn | some l=>exact ⟨l,rfl⟩
  obtain ⟨⟨s1,s2,s3⟩,rfl⟩ : ∃ v,oS = some v:=by cases oS with | none=>cases hSn | some l=>exact ⟨l,rfl⟩
  have hmn2 : imR s.data.toList = some (its,(gg,kk),(s1,s2,s3),sk,fa):=by
   rw [hmn]
   show (if w0.data.toList = wPro /\ true = true then _ else _) = _
   rw [if_pos ⟨by rw [<- Lib.toList_data,hW0,hw5],rfl⟩]
  have HV : Hid (accP els lims q0 q1 q2 q3 s (imR s.data.toList) = if accB els lims q0 q1 q2 q3 s (its,(gg,kk),(s1,s2,s3),sk,fa) then some (its,(gg,kk),(s1,s2,s3),sk,fa) else none):=by unfold Hid;rw [hmn2];rfl
  have hIs:=HIs its rfl;have hMs:=HMs (gg,kk) rfl;clear hmn hmn2 HIs HMs hW2 hWn hIn hMn hSn hw5;simp only [Option.isSome_some,Option.getD_some,List.length_cons,List.length_nil] at cW;have h22 : (((0 + 1 + 1 : Nat) : Int) = 2) = True:=by simp
  simp only [h22,decide_true,Bool.and_self] at cW;unfold RetItsK at cI;simp only [Option.isSome_some,Option.getD_some] at cI;unfold RetMkK at cM;simp only [Option.isSome_some,Option.getD_some] at cM;unfold RetSlK at cS;simp only [Option.isSome_some,Option.getD_some] at cS;go_enter Tryz.func45,Tryz.ntmps45;go_wp2_with (first | (go_at_call 87;((with_reducible refine (cl _ bqq).mono ?_);rintro e w' ⟨A1,n1,c1,x1,rfl,rfl,o1⟩;(obtain rfl : n1 = n0:=o1.len.symm.trans HLM.out);(obtain ⟨b1,rfl,hb1,hb2⟩:=o1.form_ Om);(have hk0:=o1.cell_ 0 Om);(rw [HL0.out] at hk0);(have hkm:=o1.cell_ (n1 - 2) Om);(rw [HLm.out] at hkm);(have hcap:=o1.cap_);(have rI:=(o1.rd.drop_ 1 Om).take_ N Om);(have rM:=(o1.rd.drop_ (1 + N) Om).take_ (n1 - 2 - (1 + N)) Om);(rw [HXM.out,Nat.zero_add] at rM);(rw [Nat.zero_add] at rI);(have hc1 : ¬ c1 = 1:=Om);(have hc2 : ¬ c1 = 1 + N:=Om))) | (go_at_call 88;((with_reducible refine (cW _ bqq).mono ?_);rintro e w' ⟨A2,n2,c2,x2,rfl,rfl,o2⟩)) | (go_at_call 89;((with_reducible refine (cI _ bqq _ _ (rI.below bqq)).mono ?_);rintro e w' ⟨I,n3,c3,x3,R3,rfl,rfl,F3,i3⟩)) | (go_at_call 91;((with_reducible refine (cJ _ _ _ _ (RdT.cells (rM.below bqq) hnM).2 (RdT.cells (rM.below bqq) hnM).1 Om).mono ?_);rintro e w' ⟨rfl,bel4⟩;(obtain ⟨x4,rfl⟩:=ext_ex bel4);clear bel4)) | (go_at_call 90;((with_reducible refine (cM _ bqq).mono ?_);rintro e w' ⟨GA,gn,gc,KA,kn,kc,x5,R5,rfl,rfl,F5,g5,k5⟩)) | (go_at_call 92;((with_reducible refine (cP _).mono ?_);rintro e w' ⟨rfl,rfl⟩)) | (go_at_call 93;((with_reducible refine (cS _ bqq).mono ?_);rintro e w' ⟨rfl,x6,rfl⟩)))
  all_goals first | (exfalso;omega) | skip
  have hBR : Below ((w.alloc (.cells #[.slice A n c,.slice B m d,.int .i64 q0,.int .i64 q1,.int .i64 q2,.int .i64 q3] 27)).alloc (.cells #[.slice none 0 0,.slice none 0 0,.slice none 0 0,.int .i64 0,.int .i64 0,.int .i64 0] 35)).heap.size ((w.alloc (.cells #[.slice A n c,.slice B m d,.int .i64 q0,.int .i64 q1,.int .i64 q2,.int .i64 q3] 27)).alloc (.cells #[.slice none 0 0,.slice none 0 0,.slice none 0 0,.int .i64 0,.int .i64 0,.int .i64 0] 35)) (ext ((ext (ext (ext (ext (ext ((w.alloc (.cells #[.slice A n c,.slice B m d,.int .i64 q0,.int .i64 q1,.int .i64 q2,.int .i64 q3] 27)).alloc (.cells #[.slice none 0 0,.slice none 0 0,.slice none 0 0,.int .i64 0,.int .i64 0,.int .i64 0] 35)) x1) x2) x3) x4) x5).alloc (.cells #[.slice GA gn gc,.slice KA kn kc] 31)) x6):=bqq;have hBw : Below w.heap.size w (ext ((ext (ext (ext (ext (ext ((w.alloc (.cells #[.slice A n c,.slice B m d,.int .i64 q0,.int .i64 q1,.int .i64 q2,.int .i64 q3] 27)).alloc (.cells #[.slice none 0 0,.slice none 0 0,.slice none 0 0,.int .i64 0,.int .i64 0,.int .i64 0] 35)) x1) x2) x3) x4) x5).alloc (.cells #[.slice GA gn gc,.slice KA kn kc] 31)) x6):=bqq;have hFF : ∃ bq R,w.heap.size + 2 <= bq /\ Fo bq (ext ((ext (ext (ext (ext (ext ((w.alloc (.cells #[.slice A n c,.slice B m d,.int .i64 q0,.int .i64 q1,.int .i64 q2,.int .i64 q3] 27)).alloc (.cells #[.slice none 0 0,.slice none 0 0,.slice none 0 0,.int .i64 0,.int .i64 0,.int .i64 0] 35)) x1) x2) x3) x4) x5).alloc (.cells #[.slice GA gn gc,.slice KA kn kc] 31)) x6).heap.size (ext ((ext (ext (ext (ext (ext ((w.alloc (.cells #[.slice A n c,.slice B m d,.int .i64 q0,.int .i64 q1,.int .i64 q2,.int .i64 q3] 27)).alloc (.cells #[.slice none 0 0,.slice none 0 0,.slice none 0 0,.int .i64 0,.int .i64 0,.int .i64 0] 35)) x1) x2) x3) x4) x5).alloc (.cells #[.slice GA gn gc,.slice KA kn kc] 31)) x6) R /\ PfF R I n3 c3 its GA gn gc gg KA kn kc kk:=by
   have b3 : Below (ext (ext (ext ((w.alloc (.cells #[.slice A n c,.slice B m d,.int .i64 q0,.int .i64 q1,.int .i64 q2,.int .i64 q3] 27)).alloc (.cells #[.slice none 0 0,.slice none 0 0,.slice none 0 0,.int .i64 0,.int .i64 0,.int .i64 0] 35)) x1) x2) x3).heap.size (ext (ext (ext ((w.alloc (.cells #[.slice A n c,.slice B m d,.int .i64 q0,.int .i64 q1,.int .i64 q2,.int .i64 q3] 27)).alloc (.cells #[.slice none 0 0,.slice none 0 0,.slice none 0 0,.int .i64 0,.int .i64 0,.int .i64 0] 35)) x1) x2) x3) (ext ((ext (ext (ext (ext (ext ((w.alloc (.cells #[.slice A n c,.slice B m d,.int .i64 q0,.int .i64 q1,.int .i64 q2,.int .i64 q3] 27)).alloc (.cells #[.slice none 0 0,.slice none 0 0,.slice none 0 0,.int .i64 0,.int .i64 0,.int .i64 0] 35)) x1) x2) x3) x4) x5).alloc (.cells #[.slice GA gn gc,.slice KA kn kc] 31)) x6):=bqq;have b5 : Below (ext (ext (ext (ext (ext ((w.alloc (.cells #[.slice A n c,.slice B m d,.int .i64 q0,.int .i64 q1,.int .i64 q2,.int .i64 q3] 27)).alloc (.cells #[.slice none 0 0,.slice none 0 0,.slice none 0 0,.int .i64 0,.int .i64 0,.int .i64 0] 35)) x1) x2) x3) x4) x5).heap.size (ext (ext (ext (ext (ext ((w.alloc (.cells #[.slice A n c,.slice B m d,.int .i64 q0,.int .i64 q1,.int .i64 q2,.int .i64 q3] 27)).alloc (.cells #[.slice none 0 0,.slice none 0 0,.slice none 0 0,.int .i64 0,.int .i64 0,.int .i64 0] 35)) x1) x2) x3) x4) x5) (ext ((ext (ext (ext (ext (ext ((w.alloc (.cells #[.slice A n c,.slice B m d,.int .i64 q0,.int .i64 q1,.int .i64 q2,.int .i64 q3] 27)).alloc (.cells #[.slice none 0 0,.slice none 0 0,.slice none 0 0,.int .i64 0,.int .i64 0,.int .i64 0] 35)) x1) x2) x3) x4) x5).alloc (.cells #[.slice GA gn gc,.slice KA kn kc] 31)) x6):=bqq;have h0:=szOf (show Below ((w.alloc (.cells #[.slice A n c,.slice B m d,.int .i64 q0,.int .i64 q1,.int .i64 q2,.int .i64 q3] 27)).alloc (.cells #[.slice none 0 0,.slice none 0 0,.slice none 0 0,.int .i64 0,.int .i64 0,.int .i64 0] 35)).heap.size ((w.alloc (.cells #[.slice A n c,.slice B m d,.int .i64 q0,.int .i64 q1,.int .i64 q2,.int .i64 q3] 27)).alloc (.cells #[.slice none 0 0,.slice none 0 0,.slice none 0 0,.int .i64 0,.int .i64 0,.int .i64 0] 35)) (ext (ext ((w.alloc (.cells #[.slice A n c,.slice B m d,.int .i64 q0,.int .i64 q1,.int .i64 q2,.int .i64 q3] 27)).alloc (.cells #[.slice none 0 0,.slice none 0 0,.slice none 0 0,.int .i64 0,.int .i64 0,.int .i64 0] 35)) x1) x2) from bqq);simp only [show ∀ (W : World) (o : Obj),(W.alloc o).heap.size = W.heap.size + 1 from fun W o=>by simp [go_sem]] at h0;have h1 : (ext (ext ((w.alloc (.cells #[.slice A n c,.slice B m d,.int .i64 q0,.int .i64 q1,.int .i64 q2,.int .i64 q3] 27)).alloc (.cells #[.slice none 0 0,.slice none 0 0,.slice none 0 0,.int .i64 0,.int .i64 0,.int .i64 0] 35)) x1) x2).heap.size <= (ext (ext ((w.alloc (.cells #[.slice A n c,.slice B m d,.int .i64 q0,.int .i64 q1,.int .i64 q2,.int .i64 q3] 27)).alloc (.cells #[.slice none 0 0,.slice none 0 0,.slice none 0 0,.int .i64 0,.int .i64 0,.int .i64 0] 35)) x1) x2).heap.size:=Nat.le_refl _;have h2 : (ext (ext (ext ((w.alloc (.cells #[.slice A n c,.slice B m d,.int .i64 q0,.int .i64 q1,.int .i64 q2,.int .i64 q3] 27)).alloc (.cells #[.slice none 0 0,.slice none 0 0,.slice none 0 0,.int .i64 0,.int .i64 0,.int .i64 0] 35)) x1) x2) x3).heap.size <= (ext (ext (ext (ext ((w.alloc (.cells #[.slice A n c,.slice B m d,.int .i64 q0,.int .i64 q1,.int .i64 q2,.int .i64 q3] 27)).alloc (.cells #[.slice none 0 0,.slice none 0 0,.slice none 0 0,.int .i64 0,.int .i64 0,.int .i64 0] 35)) x1) x2) x3) x4).heap.size:=szOf bqq;have h3 : (ext (ext ((w.alloc (.cells #[.slice A n c,.slice B m d,.int .i64 q0,.int .i64 q1,.int .i64 q2,.int .i64 q3] 27)).alloc (.cells #[.slice none 0 0,.slice none 0 0,.slice none 0 0,.int .i64 0,.int .i64 0,.int .i64 0] 35)) x1) x2).heap.size <= (ext (ext (ext (ext ((w.alloc (.cells #[.slice A n c,.slice B m d,.int .i64 q0,.int .i64 q1,.int .i64 q2,.int .i64 q3] 27)).alloc (.cells #[.slice none 0 0,.slice none 0 0,.slice none 0 0,.int .i64 0,.int .i64 0,.int .i64 0] 35)) x1) x2) x3) x4).heap.size:=szOf bqq;have h4 : (ext (ext (ext (ext ((w.alloc (.cells #[.slice A n c,.slice B m d,.int .i64 q0,.int .i64 q1,.int .i64 q2,.int .i64 q3] 27)).alloc (.cells #[.slice none 0 0,.slice none 0 0,.slice none 0 0,.int .i64 0,.int .i64 0,.int .i64 0] 35)) x1) x2) x3) x4).heap.size <= (ext ((ext (ext (ext (ext (ext ((w.alloc (.cells #[.slice A n c,.slice B m d,.int .i64 q0,.int .i64 q1,.int .i64 q2,.int .i64 q3] 27)).alloc (.cells #[.slice none 0 0,.slice none 0 0,.slice none 0 0,.int .i64 0,.int .i64 0,.int .i64 0] 35)) x1) x2) x3) x4) x5).alloc (.cells #[.slice GA gn gc,.slice KA kn kc] 31)) x6).heap.size:=szOf bqq;have G3:=(F3.below b3).mono h1 h2;have G5:=(F5.below b5).mono (Nat.le_refl _) (szOf b5);exact ⟨_,_,h0,Fo.merge (fun i=>i.1 == 0 || (i.1 == 3 || i.1 == 4)) G3 G5 h3 h4,i3.of rfl (fun j=>⟨rfl,rfl⟩),g5.of rfl (fun j=>rfl),k5.of rfl (fun j=>rfl)⟩
  obtain rfl : n2 = 2:=o2.len.symm;obtain ⟨g2,rfl,hg2b,hg2⟩:=o2.form_ Om;have hg2n : w.heap.size + 2 <= g2:=by
   have h1:=szOf (show Below ((w.alloc (.cells #[.slice A n c,.slice B m d,.int .i64 q0,.int .i64 q1,.int .i64 q2,.int .i64 q3] 27)).alloc (.cells #[.slice none 0 0,.slice none 0 0,.slice none 0 0,.int .i64 0,.int .i64 0,.int .i64 0] 35)).heap.size ((w.alloc (.cells #[.slice A n c,.slice B m d,.int .i64 q0,.int .i64 q1,.int .i64 q2,.int .i64 q3] 27)).alloc (.cells #[.slice none 0 0,.slice none 0 0,.slice none 0 0,.int .i64 0,.int .i64 0,.int .i64 0] 35)) (ext ((w.alloc (.cells #[.slice A n c,.slice B m d,.int .i64 q0,.int .i64 q1,.int .i64 q2,.int .i64 q3] 27)).alloc (.cells #[.slice none 0 0,.slice none 0 0,.slice none 0 0,.int .i64 0,.int .i64 0,.int .i64 0] 35)) x1) from bqq);simp only [show ∀ (W : World) (o : Obj),(W.alloc o).heap.size = W.heap.size + 1 from fun W o=>by simp [go_sem]] at h1;omega
  have b2 : Below (ext (ext ((w.alloc (.cells #[.slice A n c,.slice B m d,.int .i64 q0,.int .i64 q1,.int .i64 q2,.int .i64 q3] 27)).alloc (.cells #[.slice none 0 0,.slice none 0 0,.slice none 0 0,.int .i64 0,.int .i64 0,.int .i64 0] 35)) x1) x2).heap.size (ext (ext ((w.alloc (.cells #[.slice A n c,.slice B m d,.int .i64 q0,.int .i64 q1,.int .i64 q2,.int .i64 q3] 27)).alloc (.cells #[.slice none 0 0,.slice none 0 0,.slice none 0 0,.int .i64 0,.int .i64 0,.int .i64 0] 35)) x1) x2) (ext ((ext (ext (ext (ext (ext ((w.alloc (.cells #[.slice A n c,.slice B m d,.int .i64 q0,.int .i64 q1,.int .i64 q2,.int .i64 q3] 27)).alloc (.cells #[.slice none 0 0,.slice none 0 0,.slice none 0 0,.int .i64 0,.int .i64 0,.int .i64 0] 35)) x1) x2) x3) x4) x5).alloc (.cells #[.slice GA gn gc,.slice KA kn kc] 31)) x6):=bqq;have hg2L:=Nat.lt_of_lt_of_le hg2 (szOf b2);have k0:=(o2.below b2).cell_ 0 Om;have k1:=(o2.below b2).cell_ 1 Om;simp only [List.getElem?_cons_zero,List.getElem?_cons_succ,Option.getD_some] at k0 k1;have hxM : (ext (ext (ext (ext (ext ((w.alloc (.cells #[.slice A n c,.slice B m d,.int .i64 q0,.int .i64 q1,.int .i64 q2,.int .i64 q3] 27)).alloc (.cells #[.slice none 0 0,.slice none 0 0,.slice none 0 0,.int .i64 0,.int .i64 0,.int .i64 0] 35)) x1) x2) x3) x4) x5).heap.size < (ext ((ext (ext (ext (ext (ext ((w.alloc (.cells #[.slice A n c,.slice B m d,.int .i64 q0,.int .i64 q1,.int .i64 q2,.int .i64 q3] 27)).alloc (.cells #[.slice none 0 0,.slice none 0 0,.slice none 0 0,.int .i64 0,.int .i64 0,.int .i64 0] 35)) x1) x2) x3) x4) x5).alloc (.cells #[.slice GA gn gc,.slice KA kn kc] 31)) x6).heap.size:=Nat.lt_of_lt_of_le Sg (szOf (show Below ((ext (ext (ext (ext (ext ((w.alloc (.cells #[.slice A n c,.slice B m d,.int .i64 q0,.int .i64 q1,.int .i64 q2,.int .i64 q3] 27)).alloc (.cells #[.slice none 0 0,.slice none 0 0,.slice none 0 0,.int .i64 0,.int .i64 0,.int .i64 0] 35)) x1) x2) x3) x4) x5).alloc (.cells #[.slice GA gn gc,.slice KA kn kc] 31)).heap.size ((ext (ext (ext (ext (ext ((w.alloc (.cells #[.slice A n c,.slice B m d,.int .i64 q0,.int .i64 q1,.int .i64 q2,.int .i64 q3] 27)).alloc (.cells #[.slice none 0 0,.slice none 0 0,.slice none 0 0,.int .i64 0,.int .i64 0,.int .i64 0] 35)) x1) x2) x3) x4) x5).alloc (.cells #[.slice GA gn gc,.slice KA kn kc] 31)) (ext ((ext (ext (ext (ext (ext ((w.alloc (.cells #[.slice A n c,.slice B m d,.int .i64 q0,.int .i64 q1,.int .i64 q2,.int .i64 q3] 27)).alloc (.cells #[.slice none 0 0,.slice none 0 0,.slice none 0 0,.int .i64 0,.int .i64 0,.int .i64 0] 35)) x1) x2) x3) x4) x5).alloc (.cells #[.slice GA gn gc,.slice KA kn kc] 31)) x6) from bqq));clear o1 F3 F5 i3 g5 k5 o2 b2 rI rM cl cW cI cJ cM cP cS;generalize hWBe : (ext ((ext (ext (ext (ext (ext ((w.alloc (.cells #[.slice A n c,.slice B m d,.int .i64 q0,.int .i64 q1,.int .i64 q2,.int .i64 q3] 27)).alloc (.cells #[.slice none 0 0,.slice none 0 0,.slice none 0 0,.int .i64 0,.int .i64 0,.int .i64 0] 35)) x1) x2) x3) x4) x5).alloc (.cells #[.slice GA gn gc,.slice KA kn kc] 31)) x6) = WB at hBR hBw hFF hg2L k0 k1 hxM ⊢;have z0:=(hBR.cell (p:=⟨w.heap.size + 1,0,none⟩) Sg).trans (show _ = some (.slice none 0 0) from by simp [go_sem]);have z1:=(hBR.cell (p:=⟨w.heap.size + 1,1,none⟩) Sg).trans (show _ = some (.slice none 0 0) from by simp [go_sem]);have z2:=(hBR.cell (p:=⟨w.heap.size + 1,2,none⟩) Sg).trans (show _ = some (.slice none 0 0) from by simp [go_sem]);have z3:=(hBR.cell (p:=⟨w.heap.size + 1,3,none⟩) Sg).trans (show _ = some (.int .i64 0) from by simp [go_sem]);have z4:=(hBR.cell (p:=⟨w.heap.size + 1,4,none⟩) Sg).trans (show _ = some (.int .i64 0) from by simp [go_sem]);have z5:=(hBR.cell (p:=⟨w.heap.size + 1,5,none⟩) Sg).trans (show _ = some (.int .i64 0) from by simp [go_sem]);have f0:=(hBR.frozen (p:=⟨w.heap.size + 1,0,none⟩) Sg).trans (show _ = false from by simp [go_sem]);have f1:=(hBR.frozen (p:=⟨w.heap.size + 1,1,none⟩) Sg).trans (show _ = false from by simp [go_sem]);have f2:=(hBR.frozen (p:=⟨w.heap.size + 1,2,none⟩) Sg).trans (show _ = false from by simp [go_sem]);have f3:=(hBR.frozen (p:=⟨w.heap.size + 1,3,none⟩) Sg).trans (show _ = false from by simp [go_sem]);have f4:=(hBR.frozen (p:=⟨w.heap.size + 1,4,none⟩) Sg).trans (show _ = false from by simp [go_sem]);have f5:=(hBR.frozen (p:=⟨w.heap.size + 1,5,none⟩) Sg).trans (show _ = false from by simp [go_sem]);have y0:=(hBR.cell (p:=⟨w.heap.size,0,none⟩) Sg).trans (show _ = some (.slice A n c) from by simp [go_sem]);have y1:=(hBR.cell (p:=⟨w.heap.size,1,none⟩) Sg).trans (show _ = some (.slice B m d) from by simp [go_sem]);have y2:=(hBR.cell (p:=⟨w.heap.size,2,none⟩) Sg).trans (show _ = some (.int .i64 q0) from by simp [go_sem]);have y3:=(hBR.cell (p:=⟨w.heap.size,3,none⟩) Sg).trans (show _ = some (.int .i64 q1) from by simp [go_sem]);have y4:=(hBR.cell (p:=⟨w.heap.size,4,none⟩) Sg).trans (show _ = some (.int .i64 q2) from by simp [go_sem]);have y5:=(hBR.cell (p:=⟨w.heap.size,5,none⟩) Sg).trans (show _ = some (.int .i64 q3) from by simp [go_sem]);have zlt : w.heap.size + 1 < WB.heap.size:=by have h:=hBR.size;simp [go_sem] at h;omega
  clear hBR hWBe;have zlt0 : w.heap.size < WB.heap.size:=Om;obtain ⟨bq,R,hbq,hFo,hPf⟩:=hFF;generalize (ext (ext (ext (ext (ext ((w.alloc (.cells #[.slice A n c,.slice B m d,.int .i64 q0,.int .i64 q1,.int .i64 q2,.int .i64 q3] 27)).alloc (.cells #[.slice none 0 0,.slice none 0 0,.slice none 0 0,.int .i64 0,.int .i64 0,.int .i64 0] 35)) x1) x2) x3) x4) x5).heap.size = gm at hxM ⊢;have hmk:=marksB_of hMs;have hb13 : Below WB.heap.size WB ((WB.alloc (.cells #[.int .i64 s1,.int .i64 s2,.int .i64 s3] 33)).alloc (.cells #[.slice I n3 c3,.slice GA gn gc,.slice KA kn kc,.int .i64 s1,.int .i64 s2,.int .i64 s3] 35)):=bqq;have hnl:=hPf.1.1;have hgl:=hPf.2.1.1;have hkl:=hPf.2.2.1;have hIr : ItsR WB I n3 c3 its:=⟨hPf.1.rd hFo,Om,hPf.1.cap hFo,fun x hx=>item_small (hIs.2 x hx)⟩;have hMr : RdMk WB GA gn KA kn gg kk:=RdMk.of_len (hPf.2.1.rd hFo) (hPf.2.2.rd hFo) Om Om (marks_rows9 hMs);have hMg:=hPf.2.1.rd hFo;have cC:=fun W (h : Below WB.heap.size WB W)=>canScore_any W A B n m c d els lims q0 q1 q2 q3 (hc.below (hBw.trans (h.mono hBw.size))) I n3 c3 its ⟨hIr.1.below h,hIr.2⟩ GA KA gn gc kn kc gg kk (hMr.below h) s1 s2 s3 fa
  have cK:=fun W=>isSkater_any sk W
  have hM : PP WB A n els I n3 c3 its GA gn gg:=⟨⟨(hc.below hBw).1,hc.2.2.1⟩,⟨hIr.1,hIr.2.2.1⟩,hMg⟩;have cT:=fun (hP : PerfG els q0 q1 q2 q3 its gg kk s1 s2 s3) W (h : Below WB.heap.size WB W)=>protocolText_any W A B n m c d els q0 q1 q2 q3 I n3 c3 its GA KA gn gc kn kc gg kk s1 s2 s3 (hM.below h) (hMr.below h) hP (hTab.below (hBw.trans (h.mono hBw.size))) (hSg.below (hBw.trans (h.mono hBw.size))) sk fa
  have hS:=fun (W : World) (h : Below ((WB.alloc (.cells #[.int .i64 s1,.int .i64 s2,.int .i64 s3] 33)).alloc (.cells #[.slice I n3 c3,.slice GA gn gc,.slice KA kn kc,.int .i64 s1,.int .i64 s2,.int .i64 s3] 35)).heap.size ((WB.alloc (.cells #[.int .i64 s1,.int .i64 s2,.int .i64 s3] 33)).alloc (.cells #[.slice I n3 c3,.slice GA gn gc,.slice KA kn kc,.int .i64 s1,.int .i64 s2,.int .i64 s3] 35)) W)=>(⟨((hb13.trans (h.mono hb13.size)).cell (p:=⟨w.heap.size,0,none⟩) zlt0).trans y0,((hb13.trans (h.mono hb13.size)).cell (p:=⟨w.heap.size,1,none⟩) zlt0).trans y1,((hb13.trans (h.mono hb13.size)).cell (p:=⟨w.heap.size,2,none⟩) zlt0).trans y2,((hb13.trans (h.mono hb13.size)).cell (p:=⟨w.heap.size,3,none⟩) zlt0).trans y3,((hb13.trans (h.mono hb13.size)).cell (p:=⟨w.heap.size,4,none⟩) zlt0).trans y4,((hb13.trans (h.mono hb13.size)).cell (p:=⟨w.heap.size,5,none⟩) zlt0).trans y5,(h.cell (p:=⟨WB.heap.size + 1,0,none⟩) Sg).trans Sg,(h.cell (p:=⟨WB.heap.size + 1,1,none⟩) Sg).trans Sg,(h.cell (p:=⟨WB.heap.size + 1,2,none⟩) Sg).trans Sg,(h.cell (p:=⟨WB.heap.size + 1,3,none⟩) Sg).trans Sg,(h.cell (p:=⟨WB.heap.size + 1,4,none⟩) Sg).trans Sg,(h.cell (p:=⟨WB.heap.size + 1,5,none⟩) Sg).trans Sg,((hb13.trans (h.mono hb13.size)).cell (p:=⟨g2,0,none⟩) hg2L).trans k0,((hb13.trans (h.mono hb13.size)).cell (p:=⟨g2,1,none⟩) hg2L).trans k1⟩ : W.cell? ⟨w.heap.size,0,none⟩ = some (.slice A n c) /\ W.cell? ⟨w.heap.size,1,none⟩ = some (.slice B m d) /\ W.cell? ⟨w.heap.size,2,none⟩ = some (.int .i64 q0) /\ W.cell? ⟨w.heap.size,3,none⟩ = some (.int .i64 q1) /\ W.cell? ⟨w.heap.size,4,none⟩ = some (.int .i64 q2) /\ W.cell? ⟨w.heap.size,5,none⟩ = some (.int .i64 q3) /\ W.cell? ⟨WB.heap.size + 1,0,none⟩ = some (.slice I n3 c3) /\ W.cell? ⟨WB.heap.size + 1,1,none⟩ = some (.slice GA gn gc) /\ W.cell? ⟨WB.heap.size + 1,2,none⟩ = some (.slice KA kn kc) /\ W.cell? ⟨WB.heap.size + 1,3,none⟩ = some (.int .i64 s1) /\ W.cell? ⟨WB.heap.size + 1,4,none⟩ = some (.int .i64 s2) /\ W.cell? ⟨WB.heap.size + 1,5,none⟩ = some (.int .i64 s3) /\ W.cell? ⟨g2,0,none⟩ = some (.int .i64 sk) /\ W.cell? ⟨g2,1,none⟩ = some (.int .i64 fa))
  have zW:=fun (W : World) (h : Below WB.heap.size WB W)=>(⟨(h.cell (p:=⟨w.heap.size + 1,0,none⟩) zlt).trans z0,(h.cell (p:=⟨w.heap.size + 1,1,none⟩) zlt).trans z1,(h.cell (p:=⟨w.heap.size + 1,2,none⟩) zlt).trans z2,(h.cell (p:=⟨w.heap.size + 1,3,none⟩) zlt).trans z3,(h.cell (p:=⟨w.heap.size + 1,4,none⟩) zlt).trans z4,(h.cell (p:=⟨w.heap.size + 1,5,none⟩) zlt).trans z5,(h.frozen (p:=⟨w.heap.size + 1,0,none⟩) zlt).trans f0,(h.frozen (p:=⟨w.heap.size + 1,1,none⟩) zlt).trans f1,(h.frozen (p:=⟨w.heap.size + 1,2,none⟩) zlt).trans f2,(h.frozen (p:=⟨w.heap.size + 1,3,none⟩) zlt).trans f3,(h.frozen (p:=⟨w.heap.size + 1,4,none⟩) zlt).trans f4,(h.frozen (p:=⟨w.heap.size + 1,5,none⟩) zlt).trans f5⟩ : W.cell? ⟨w.heap.size + 1,0,none⟩ = some (.slice none 0 0) /\ W.cell? ⟨w.heap.size + 1,1,none⟩ = some (.slice none 0 0) /\ W.cell? ⟨w.heap.size + 1,2,none⟩ = some (.slice none 0 0) /\ W.cell? ⟨w.heap.size + 1,3,none⟩ = some (.int .i64 0) /\ W.cell? ⟨w.heap.size + 1,4,none⟩ = some (.int .i64 0) /\ W.cell? ⟨w.heap.size + 1,5,none⟩ = some (.int .i64 0) /\ W.frozen? ⟨w.heap.size + 1,0,none⟩ = false /\ W.frozen? ⟨w.heap.size + 1,1,none⟩ = false /\ W.frozen? ⟨w.heap.size + 1,2,none⟩ = false /\ W.frozen? ⟨w.heap.size + 1,3,none⟩ = false /\ W.frozen? ⟨w.heap.size + 1,4,none⟩ = false /\ W.frozen? ⟨w.heap.size + 1,5,none⟩ = false)
  clear z0 z1 z2 z3 z4 z5 f0 f1 f2 f3 f4 f5 y0 y1 y2 y3 y4 y5 hM hMg hmk hIs;have HA : Hid (accB els lims q0 q1 q2 q3 s (its,(gg,kk),(s1,s2,s3),sk,fa) = ((askB els lims q0 q1 q2 q3 its gg kk s1 s2 s3 fa && inB sk 1 999) && ((textV els q0 q1 q2 q3 its gg kk s1 s2 s3 sk fa).toList == s.toList))):=rfl
  cases hq : askB els lims q0 q1 q2 q3 its gg kk s1 s2 s3 fa
  ·
   rw [hq] at cC HA;have HE : Hid (accP els lims q0 q1 q2 q3 s (imR s.data.toList) = none):=by unfold Hid;rw [HV.out,HA.out];rfl
   clear HV HA hq cT;refine wp_region_held_drew (S:=fun W'=>W'.cell? ⟨w.heap.size,0,none⟩ = some (.slice A n c) /\ W'.cell? ⟨w.heap.size,1,none⟩ = some (.slice B m d) /\ W'.cell? ⟨w.heap.size,2,none⟩ = some (.int .i64 q0) /\ W'.cell? ⟨w.heap.size,3,none⟩ = some (.int .i64 q1) /\ W'.cell? ⟨w.heap.size,4,none⟩ = some (.int .i64 q2) /\ W'.cell? ⟨w.heap.size,5,none⟩ = some (.int .i64 q3) /\ W'.cell? ⟨WB.heap.size + 1,0,none⟩ = some (.slice I n3 c3) /\ W'.cell? ⟨WB.heap.size + 1,1,none⟩ = some (.slice GA gn gc) /\ W'.cell? ⟨WB.heap.size + 1,2,none⟩ = some (.slice KA kn kc) /\ W'.cell? ⟨WB.heap.size + 1,3,none⟩ = some (.int .i64 s1) /\ W'.cell? ⟨WB.heap.size + 1,4,none⟩ = some (.int .i64 s2) /\ W'.cell? ⟨WB.heap.size + 1,5,none⟩ = some (.int .i64 s3) /\ W'.cell? ⟨g2,0,none⟩ = some (.int .i64 sk) /\ W'.cell? ⟨g2,1,none⟩ = some (.int .i64 fa)) (by kernel_rfl) (hS _ bqq) (fun hHeld=>?_);refine tw 0 ?_;refine tw 1 ?_;refine tw 2 ?_;refine tw 3 ?_;refine tw 4 ?_;refine wpAnyH_ready (rs:=[5]) (by kernel_rfl) (by simp) ?_;refine AllReadyH.cons rfl (fun K hK=>?_) AllReadyH.nil
   go_simp
   (go_at_call 38;((with_reducible refine ex (cC _ bqq) ?_);intro u1))
   try go_wp2_with fail
   refine hK.out _ _ (hS _ bqq) (fun hHeld=>?_);clear hK K
   try simp only [Act.put,List.setIfInBounds_toArray,List.set_cons_zero,List.set_cons_succ]
   refine tw 6 ?_;refine tw 7 ?_;refine tu 8 ?_;refine tu 9 ?_;refine tu 10 ?_;refine tu 11 ?_;refine tu 12 ?_;refine tw 13 ?_;refine tw 14 ?_;refine tu 15 ?_;refine tu 16 ?_;refine tu 17 ?_;refine tu 18 ?_;refine tu 19 ?_;refine tu 20 ?_;refine tu 21 ?_;refine tu 22 ?_;refine tu 23 ?_;refine tu 24 ?_;refine tu 25 ?_;refine tw 26 ?_;refine wpAnyH_done (by kernel_rfl) ?_ _;obtain ⟨z0,z1,z2,z3,z4,z5,f0,f1,f2,f3,f4,f5⟩:=zW (ext ((WB.alloc (.cells #[.int .i64 s1,.int .i64 s2,.int .i64 s3] 33)).alloc (.cells #[.slice I n3 c3,.slice GA gn gc,.slice KA kn kc,.int .i64 s1,.int .i64 s2,.int .i64 s3] 35)).drew u1) bqq;generalize hW9 : (ext ((WB.alloc (.cells #[.int .i64 s1,.int .i64 s2,.int .i64 s3] 33)).alloc (.cells #[.slice I n3 c3,.slice GA gn gc,.slice KA kn kc,.int .i64 s1,.int .i64 s2,.int .i64 s3] 35)).drew u1) = W9 at z0 z1 z2 z3 z4 z5 f0 f1 f2 f3 f4 f5 ⊢;have hB9 : Below w.heap.size w W9:=by rw [<- hW9];exact bqq
   clear hW9;go_wp2;refine bodyPost_ret (v:=.tuple #[.agg #[.slice none 0 0,.slice none 0 0,.slice none 0 0,.int .i64 0,.int .i64 0,.int .i64 0],.int .i64 0,.int .i64 0,.bool false]) (by simp [results,Tryz.results45,go_sem,z0,z1,z2,z3,z4,z5]) rfl ?_;exact RetRd.none_ HE.out bqq
  ·
   rw [hq] at cC HA;have hask:=ask_of hq
   cases hsk : inB sk 1 999
   ·
    rw [hsk] at cK HA;have HE : Hid (accP els lims q0 q1 q2 q3 s (imR s.data.toList) = none):=by unfold Hid;rw [HV.out,HA.out];rfl
    clear HV HA hq hsk cT hask;refine wp_region_held_drew (S:=fun W'=>W'.cell? ⟨w.heap.size,0,none⟩ = some (.slice A n c) /\ W'.cell? ⟨w.heap.size,1,none⟩ = some (.slice B m d) /\ W'.cell? ⟨w.heap.size,2,none⟩ = some (.int .i64 q0) /\ W'.cell? ⟨w.heap.size,3,none⟩ = some (.int .i64 q1) /\ W'.cell? ⟨w.heap.size,4,none⟩ = some (.int .i64 q2) /\ W'.cell? ⟨w.heap.size,5,none⟩ = some (.int .i64 q3) /\ W'.cell? ⟨WB.heap.size + 1,0,none⟩ = some (.slice I n3 c3) /\ W'.cell? ⟨WB.heap.size + 1,1,none⟩ = some (.slice GA gn gc) /\ W'.cell? ⟨WB.heap.size + 1,2,none⟩ = some (.slice KA kn kc) /\ W'.cell? ⟨WB.heap.size + 1,3,none⟩ = some (.int .i64 s1) /\ W'.cell? ⟨WB.heap.size + 1,4,none⟩ = some (.int .i64 s2) /\ W'.cell? ⟨WB.heap.size + 1,5,none⟩ = some (.int .i64 s3) /\ W'.cell? ⟨g2,0,none⟩ = some (.int .i64 sk) /\ W'.cell? ⟨g2,1,none⟩ = some (.int .i64 fa)) (by kernel_rfl) (hS _ bqq) (fun hHeld=>?_);refine tw 0 ?_;refine tw 1 ?_;refine tw 2 ?_;refine tw 3 ?_;refine tw 4 ?_;refine wpAnyH_ready (rs:=[5]) (by kernel_rfl) (by simp) ?_;refine AllReadyH.cons rfl (fun K hK=>?_) AllReadyH.nil
    go_simp
    (go_at_call 38;((with_reducible refine ex (cC _ bqq) ?_);intro u1))
    try go_wp2_with fail
    refine hK.out _ _ (hS _ bqq) (fun hHeld=>?_);clear hK K
    try simp only [Act.put,List.setIfInBounds_toArray,List.set_cons_zero,List.set_cons_succ]
    refine tw 6 ?_;refine tw 7 ?_;refine tw 8 ?_;refine tw 9 ?_;refine tw 10 ?_;refine wpAnyH_ready (rs:=[11]) (by kernel_rfl) (by simp) ?_;refine AllReadyH.cons rfl (fun K hK=>?_) AllReadyH.nil
    go_simp
    (go_at_call 39;(with_reducible refine ep (cK _) ?_))
    try go_wp2_with fail
    refine hK.out _ _ (hS _ bqq) (fun hHeld=>?_);clear hK K
    try simp only [Act.put,List.setIfInBounds_toArray,List.set_cons_zero,List.set_cons_succ]
    refine tw 12 ?_;refine tw 13 ?_;refine tw 14 ?_;refine tu 15 ?_;refine tu 16 ?_;refine tu 17 ?_;refine tu 18 ?_;refine tu 19 ?_;refine tu 20 ?_;refine tu 21 ?_;refine tu 22 ?_;refine tu 23 ?_;refine tu 24 ?_;refine tu 25 ?_;refine tw 26 ?_;refine wpAnyH_done (by kernel_rfl) ?_ _;obtain ⟨z0,z1,z2,z3,z4,z5,f0,f1,f2,f3,f4,f5⟩:=zW (ext ((WB.alloc (.cells #[.int .i64 s1,.int .i64 s2,.int .i64 s3] 33)).alloc (.cells #[.slice I n3 c3,.slice GA gn gc,.slice KA kn kc,.int .i64 s1,.int .i64 s2,.int .i64 s3] 35)).drew u1) bqq;generalize hW9 : (ext ((WB.alloc (.cells #[.int .i64 s1,.int .i64 s2,.int .i64 s3] 33)).alloc (.cells #[.slice I n3 c3,.slice GA gn gc,.slice KA kn kc,.int .i64 s1,.int .i64 s2,.int .i64 s3] 35)).drew u1) = W9 at z0 z1 z2 z3 z4 z5 f0 f1 f2 f3 f4 f5 ⊢;have hB9 : Below w.heap.size w W9:=by rw [<- hW9];exact bqq
    clear hW9;go_wp2;refine bodyPost_ret (v:=.tuple #[.agg #[.slice none 0 0,.slice none 0 0,.slice none 0 0,.int .i64 0,.int .i64 0,.int .i64 0],.int .i64 0,.int .i64 0,.bool false]) (by simp [results,Tryz.results45,go_sem,z0,z1,z2,z3,z4,z5]) rfl ?_;exact RetRd.none_ HE.out bqq
   ·
    rw [hsk] at cK HA;have cT:=fun W h=>cT hask.1 W h (inB_iff.1 hsk) hask.2
    clear hq hsk hask;by_cases htx : (textV els q0 q1 q2 q3 its gg kk s1 s2 s3 sk fa).toList = s.toList
    ·
     have HE : Hid (accP els lims q0 q1 q2 q3 s (imR s.data.toList) = some (its,(gg,kk),(s1,s2,s3),sk,fa)):=by unfold Hid;rw [HV.out,HA.out,htx];simp
     clear HV HA;generalize textV els q0 q1 q2 q3 its gg kk s1 s2 s3 sk fa = tv at *;have htB : (tv.toList == s.toList) = true:=by rw [htx];simp
     refine wp_region_held_drew (S:=fun W'=>W'.cell? ⟨w.heap.size,0,none⟩ = some (.slice A n c) /\ W'.cell? ⟨w.heap.size,1,none⟩ = some (.slice B m d) /\ W'.cell? ⟨w.heap.size,2,none⟩ = some (.int .i64 q0) /\ W'.cell? ⟨w.heap.size,3,none⟩ = some (.int .i64 q1) /\ W'.cell? ⟨w.heap.size,4,none⟩ = some (.int .i64 q2) /\ W'.cell? ⟨w.heap.size,5,none⟩ = some (.int .i64 q3) /\ W'.cell? ⟨WB.heap.size + 1,0,none⟩ = some (.slice I n3 c3) /\ W'.cell? ⟨WB.heap.size + 1,1,none⟩ = some (.slice GA gn gc) /\ W'.cell? ⟨WB.heap.size + 1,2,none⟩ = some (.slice KA kn kc) /\ W'.cell? ⟨WB.heap.size + 1,3,none⟩ = some (.int .i64 s1) /\ W'.cell? ⟨WB.heap.size + 1,4,none⟩ = some (.int .i64 s2) /\ W'.cell? ⟨WB.heap.size + 1,5,none⟩ = some (.int .i64 s3) /\ W'.cell? ⟨g2,0,none⟩ = some (.int .i64 sk) /\ W'.cell? ⟨g2,1,none⟩ = some (.int .i64 fa)) (by kernel_rfl) (hS _ bqq) (fun hHeld=>?_);refine tw 0 ?_;refine tw 1 ?_;refine tw 2 ?_;refine tw 3 ?_;refine tw 4 ?_;refine wpAnyH_ready (rs:=[5]) (by kernel_rfl) (by simp) ?_;refine AllReadyH.cons rfl (fun K hK=>?_) AllReadyH.nil
     go_simp
     (go_at_call 38;((with_reducible refine ex (cC _ bqq) ?_);intro u1))
     try go_wp2_with fail
     refine hK.out _ _ (hS _ bqq) (fun hHeld=>?_);clear hK K
     try simp only [Act.put,List.setIfInBounds_toArray,List.set_cons_zero,List.set_cons_succ]
     refine tw 6 ?_;refine tw 7 ?_;refine tw 8 ?_;refine tw 9 ?_;refine tw 10 ?_;refine wpAnyH_ready (rs:=[11]) (by kernel_rfl) (by simp) ?_;refine AllReadyH.cons rfl (fun K hK=>?_) AllReadyH.nil
     go_simp
     (go_at_call 39;(with_reducible refine ep (cK _) ?_))
     try go_wp2_with fail
     refine hK.out _ _ (hS _ bqq) (fun hHeld=>?_);clear hK K
     try simp only [Act.put,List.setIfInBounds_toArray,List.set_cons_zero,List.set_cons_succ]
     refine tw 12 ?_;refine tw 13 ?_;refine tw 14 ?_;refine tw 15 ?_;refine tw 16 ?_;refine tw 17 ?_;refine tw 18 ?_;refine tw 19 ?_;refine tw 20 ?_;refine tw 21 ?_;refine tw 22 ?_;refine tw 24 ?_;refine wpAnyH_ready (rs:=[23]) (by kernel_rfl) (by simp) ?_;refine AllReadyH.cons rfl (fun K hK=>?_) AllReadyH.nil
     go_simp
     (go_at_call 40;((with_reducible refine (cT _ bqq).mono ?_);rintro e w' ⟨rfl,u2,rfl⟩))
     try go_wp2_with fail
     refine hK.out _ _ (hS _ bqq) (fun hHeld=>?_);clear hK K
     try simp only [Act.put,List.setIfInBounds_toArray,List.set_cons_zero,List.set_cons_succ]
     refine tw 25 ?_;refine tw 26 ?_;refine wpAnyH_done (by kernel_rfl) ?_ _;obtain ⟨z0,z1,z2,z3,z4,z5,f0,f1,f2,f3,f4,f5⟩:=zW (ext (ext ((WB.alloc (.cells #[.int .i64 s1,.int .i64 s2,.int .i64 s3] 33)).alloc (.cells #[.slice I n3 c3,.slice GA gn gc,.slice KA kn kc,.int .i64 s1,.int .i64 s2,.int .i64 s3] 35)).drew u1) u2) bqq;have hP9:=hS (ext (ext ((WB.alloc (.cells #[.int .i64 s1,.int .i64 s2,.int .i64 s3] 33)).alloc (.cells #[.slice I n3 c3,.slice GA gn gc,.slice KA kn kc,.int .i64 s1,.int .i64 s2,.int .i64 s3] 35)).drew u1) u2) bqq;have hg9 : Below WB.heap.size WB (ext (ext ((WB.alloc (.cells #[.int .i64 s1,.int .i64 s2,.int .i64 s3] 33)).alloc (.cells #[.slice I n3 c3,.slice GA gn gc,.slice KA kn kc,.int .i64 s1,.int .i64 s2,.int .i64 s3] 35)).drew u1) u2):=bqq;generalize hW9 : (ext (ext ((WB.alloc (.cells #[.int .i64 s1,.int .i64 s2,.int .i64 s3] 33)).alloc (.cells #[.slice I n3 c3,.slice GA gn gc,.slice KA kn kc,.int .i64 s1,.int .i64 s2,.int .i64 s3] 35)).drew u1) u2) = W9 at z0 z1 z2 z3 z4 z5 f0 f1 f2 f3 f4 f5 hP9 hg9 ⊢;have hB9 : Below w.heap.size w W9:=by rw [<- hW9];exact bqq
     clear hW9;obtain ⟨r0,r1,r2,r3,r4,r5,p0,p1,p2,p3,p4,p5,m0,m1⟩:=hP9;have hn1 : ¬ g2 = w.heap.size + 1:=Om;have hn2 : ¬ w.heap.size + 1 = g2:=Om;have hn3 : ¬ (w.heap.size + 1 = WB.heap.size + 1):=Om;have hn4 : ¬ (WB.heap.size + 1 = w.heap.size + 1):=Om;go_wp2
     go_region
     go_wp2;refine bodyPost_ret (v:=.tuple #[.agg #[.slice I n3 c3,.slice GA gn gc,.slice KA kn kc,.int .i64 s1,.int .i64 s2,.int .i64 s3],.int .i64 sk,.int .i64 fa,.bool true]) (by simp [results,Tryz.results45,go_sem,z0,z1,z2,z3,z4,z5]) rfl ?_;have hl9 : w.heap.size + 1 < bq:=Om;have G9:=((((((hFo.below hg9).setLow (k:=0) (v:=.slice I n3 c3) hl9).setLow (k:=1) (v:=.slice GA gn gc) hl9).setLow (k:=2) (v:=.slice KA kn kc) hl9).setLow (k:=3) (v:=.int .i64 s1) hl9).setLow (k:=4) (v:=.int .i64 s2) hl9).setLow (k:=5) (v:=.int .i64 s3) hl9;have hs9:=szOf hg9;exact RetRd.mk_ HE.out (G9.below (bDrew (Below.refl _ _))) hPf Om (by simp [World.setCell];exact hs9) bqq
    ·
     have HE : Hid (accP els lims q0 q1 q2 q3 s (imR s.data.toList) = none):=by unfold Hid;rw [HV.out,HA.out,beq_eq_false_iff_ne.2 htx];rfl
     clear HV HA;generalize textV els q0 q1 q2 q3 its gg kk s1 s2 s3 sk fa = tv at *;have htB : (tv.toList == s.toList) = false:=beq_eq_false_iff_ne.2 htx;refine wp_region_held_drew (S:=fun W'=>W'.cell? ⟨w.heap.size,0,none⟩ = some (.slice A n c) /\ W'.cell? ⟨w.heap.size,1,none⟩ = some (.slice B m d) /\ W'.cell? ⟨w.heap.size,2,none⟩ = some (.int .i64 q0) /\ W'.cell? ⟨w.heap.size,3,none⟩ = some (.int .i64 q1) /\ W'.cell? ⟨w.heap.size,4,none⟩ = some (.int .i64 q2) /\ W'.cell? ⟨w.heap.size,5,none⟩ = some (.int .i64 q3) /\ W'.cell? ⟨WB.heap.size + 1,0,none⟩ = some (.slice I n3 c3) /\ W'.cell? ⟨WB.heap.size + 1,1,none⟩ = some (.slice GA gn gc) /\ W'.cell? ⟨WB.heap.size + 1,2,none⟩ = some (.slice KA kn kc) /\ W'.cell? ⟨WB.heap.size + 1,3,none⟩ = some (.int .i64 s1) /\ W'.cell? ⟨WB.heap.size + 1,4,none⟩ = some (.int .i64 s2) /\ W'.cell? ⟨WB.heap.size + 1,5,none⟩ = some (.int .i64 s3) /\ W'.cell? ⟨g2,0,none⟩ = some (.int .i64 sk) /\ W'.cell? ⟨g2,1,none⟩ = some (.int .i64 fa)) (by kernel_rfl) (hS _ bqq) (fun hHeld=>?_);refine tw 0 ?_;refine tw 1 ?_;refine tw 2 ?_;refine tw 3 ?_;refine tw 4 ?_;refine wpAnyH_ready (rs:=[5]) (by kernel_rfl) (by simp) ?_;refine AllReadyH.cons rfl (fun K hK=>?_) AllReadyH.nil
     go_simp
     (go_at_call 38;((with_reducible refine ex (cC _ bqq) ?_);intro u1))
     try go_wp2_with fail
     refine hK.out _ _ (hS _ bqq) (fun hHeld=>?_);clear hK K
     try simp only [Act.put,List.setIfInBounds_toArray,List.set_cons_zero,List.set_cons_succ]
     refine tw 6 ?_;refine tw 7 ?_;refine tw 8 ?_;refine tw 9 ?_;refine tw 10 ?_;refine wpAnyH_ready (rs:=[11]) (by kernel_rfl) (by simp) ?_;refine AllReadyH.cons rfl (fun K hK=>?_) AllReadyH.nil
     go_simp
     (go_at_call 39;(with_reducible refine ep (cK _) ?_))
     try go_wp2_with fail
     refine hK.out _ _ (hS _ bqq) (fun hHeld=>?_);clear hK K
     try simp only [Act.put,List.setIfInBounds_toArray,List.set_cons_zero,List.set_cons_succ]
     refine tw 12 ?_;refine tw 13 ?_;refine tw 14 ?_;refine tw 15 ?_;refine tw 16 ?_;refine tw 17 ?_;refine tw 18 ?_;refine tw 19 ?_;refine tw 20 ?_;refine tw 21 ?_;refine tw 22 ?_;refine tw 24 ?_;refine wpAnyH_ready (rs:=[23]) (by kernel_rfl) (by simp) ?_;refine AllReadyH.cons rfl (fun K hK=>?_) AllReadyH.nil
     go_simp
     (go_at_call 40;((with_reducible refine (cT _ bqq).mono ?_);rintro e w' ⟨rfl,u2,rfl⟩))
     try go_wp2_with fail
     refine hK.out _ _ (hS _ bqq) (fun hHeld=>?_);clear hK K
     try simp only [Act.put,List.setIfInBounds_toArray,List.set_cons_zero,List.set_cons_succ]
     refine tw 25 ?_;refine tw 26 ?_;refine wpAnyH_done (by kernel_rfl) ?_ _;obtain ⟨z0,z1,z2,z3,z4,z5,f0,f1,f2,f3,f4,f5⟩:=zW (ext (ext ((WB.alloc (.cells #[.int .i64 s1,.int .i64 s2,.int .i64 s3] 33)).alloc (.cells #[.slice I n3 c3,.slice GA gn gc,.slice KA kn kc,.int .i64 s1,.int .i64 s2,.int .i64 s3] 35)).drew u1) u2) bqq;generalize hW9 : (ext (ext ((WB.alloc (.cells #[.int .i64 s1,.int .i64 s2,.int .i64 s3] 33)).alloc (.cells #[.slice I n3 c3,.slice GA gn gc,.slice KA kn kc,.int .i64 s1,.int .i64 s2,.int .i64 s3] 35)).drew u1) u2) = W9 at z0 z1 z2 z3 z4 z5 f0 f1 f2 f3 f4 f5 ⊢;have hB9 : Below w.heap.size w W9:=by rw [<- hW9];exact bqq
     clear hW9;go_wp2;refine bodyPost_ret (v:=.tuple #[.agg #[.slice none 0 0,.slice none 0 0,.slice none 0 0,.int .i64 0,.int .i64 0,.int .i64 0],.int .i64 0,.int .i64 0,.bool false]) (by simp [results,Tryz.results45,go_sem,z0,z1,z2,z3,z4,z5]) rfl ?_;exact RetRd.none_ HE.out bqq

theorem rd_code {els : List El} {lims : List Int} {q0 q1 q2 q3 : Int} {s : ByteArray} (h : codeB els lims q0 q1 q2 q3 = false) : rdP els lims q0 q1 q2 q3 s = none:=by
 unfold rdP
 split
 ·
  cases hr : spR s.data.toList with
  | none=>rfl
  | some v=>simp [accP,accB,proB,askB,perfB,judgedB,progB,h]
 ·
  rfl
theorem rd_long {els : List El} {lims : List Int} {q0 q1 q2 q3 : Int} {s : ByteArray} (h : 4000 < s.size) : rdP els lims q0 q1 q2 q3 s = none:=by
 unfold rdP;rw [if_neg Om]
theorem implReadProtocol_any (w : World) (A B : OA) (n m c d : Nat) (els : List El) (lims : List Int) (q0 q1 q2 q3 : Int) (hc : CodeR w A n B m els lims) (s : ByteArray) (hs : s.size <= 1048576) (hM : Mxl w) (hTab : Tab w) (hSg : Sgn w) :
  Calls Tryz.prog 9 #[.agg #[.slice A n c,.slice B m d,.int .i64 q0,.int .i64 q1,.int .i64 q2,.int .i64 q3],.string s] w (RetRd w (rdP els lims q0 q1 q2 q3 s)):=by
 have ci:=fun W h=>isCode_any W A B n m c d els lims q0 q1 q2 q3 (hc.below h).1 (hc.below h).2.1 hc.2.2.1 hc.2.2.2.1 hc.2.2.2.2
 have cr:=fun W h=>readProtocol_any W A B n m c d els lims q0 q1 q2 q3 (hc.below h) s hs (hM.below h) (hTab.below h) (hSg.below h)
 simp only [rd_both] at cr;clear hM hTab hSg hc
 cases hq : codeB els lims q0 q1 q2 q3
 ·
  have HE:=Lib.hid (rd_code (s:=s) hq);rw [hq] at ci;clear hq cr;go_enter Tryz.func9,Tryz.ntmps9;go_wp2_with ((go_at_call 44;((with_reducible refine ex (ci _ bqq) ?_);intro x1)))
  have hBR : Below ((w.alloc (.cells #[.slice A n c,.slice B m d,.int .i64 q0,.int .i64 q1,.int .i64 q2,.int .i64 q3] 27)).alloc (.cells #[.slice none 0 0,.slice none 0 0,.slice none 0 0,.int .i64 0,.int .i64 0,.int .i64 0] 35)).heap.size ((w.alloc (.cells #[.slice A n c,.slice B m d,.int .i64 q0,.int .i64 q1,.int .i64 q2,.int .i64 q3] 27)).alloc (.cells #[.slice none 0 0,.slice none 0 0,.slice none 0 0,.int .i64 0,.int .i64 0,.int .i64 0] 35)) (ext ((w.alloc (.cells #[.slice A n c,.slice B m d,.int .i64 q0,.int .i64 q1,.int .i64 q2,.int .i64 q3] 27)).alloc (.cells #[.slice none 0 0,.slice none 0 0,.slice none 0 0,.int .i64 0,.int .i64 0,.int .i64 0] 35)) x1):=bqq;have z0:=(hBR.cell (p:=⟨w.heap.size + 1,0,none⟩) Sg).trans (show _ = some (.slice none 0 0) from by simp [go_sem]);have z1:=(hBR.cell (p:=⟨w.heap.size + 1,1,none⟩) Sg).trans (show _ = some (.slice none 0 0) from by simp [go_sem]);have z2:=(hBR.cell (p:=⟨w.heap.size + 1,2,none⟩) Sg).trans (show _ = some (.slice none 0 0) from by simp [go_sem]);have z3:=(hBR.cell (p:=⟨w.heap.size + 1,3,none⟩) Sg).trans (show _ = some (.int .i64 0) from by simp [go_sem]);have z4:=(hBR.cell (p:=⟨w.heap.size + 1,4,none⟩) Sg).trans (show _ = some (.int .i64 0) from by simp [go_sem]);have z5:=(hBR.cell (p:=⟨w.heap.size + 1,5,none⟩) Sg).trans (show _ = some (.int .i64 0) from by simp [go_sem]);have f0:=(hBR.frozen (p:=⟨w.heap.size + 1,0,none⟩) Sg).trans (show _ = false from by simp [go_sem]);have f1:=(hBR.frozen (p:=⟨w.heap.size + 1,1,none⟩) Sg).trans (show _ = false from by simp [go_sem]);have f2:=(hBR.frozen (p:=⟨w.heap.size + 1,2,none⟩) Sg).trans (show _ = false from by simp [go_sem]);have f3:=(hBR.frozen (p:=⟨w.heap.size + 1,3,none⟩) Sg).trans (show _ = false from by simp [go_sem]);have f4:=(hBR.frozen (p:=⟨w.heap.size + 1,4,none⟩) Sg).trans (show _ = false from by simp [go_sem]);have f5:=(hBR.frozen (p:=⟨w.heap.size + 1,5,none⟩) Sg).trans (show _ = false from by simp [go_sem]);refine bodyPost_ret (v:=.tuple #[.agg #[.slice none 0 0,.slice none 0 0,.slice none 0 0,.int .i64 0,.int .i64 0,.int .i64 0],.int .i64 0,.int .i64 0,.bool false]) (by simp [results,Tryz.results9,go_sem,z0,z1,z2,z3,z4,z5]) rfl ?_;exact RetRd.none_ HE.out bqq
 ·
  rw [hq] at ci;clear hq;generalize rdP els lims q0 q1 q2 q3 s = o at *;unfold RetRd at cr;go_enter Tryz.func9,Tryz.ntmps9;go_wp2_with (first | (go_at_call 44;((with_reducible refine ex (ci _ bqq) ?_);intro x1)) | (go_at_call 45;((with_reducible refine (cr _ bqq).mono ?_);rintro e w' ⟨I,n2,c2,GA,gn,gc,KA,kn,kc,x2,R,rfl,rfl,hF,hP⟩)))
  have hBR : Below ((w.alloc (.cells #[.slice A n c,.slice B m d,.int .i64 q0,.int .i64 q1,.int .i64 q2,.int .i64 q3] 27)).alloc (.cells #[.slice none 0 0,.slice none 0 0,.slice none 0 0,.int .i64 0,.int .i64 0,.int .i64 0] 35)).heap.size ((w.alloc (.cells #[.slice A n c,.slice B m d,.int .i64 q0,.int .i64 q1,.int .i64 q2,.int .i64 q3] 27)).alloc (.cells #[.slice none 0 0,.slice none 0 0,.slice none 0 0,.int .i64 0,.int .i64 0,.int .i64 0] 35)) (ext (ext ((w.alloc (.cells #[.slice A n c,.slice B m d,.int .i64 q0,.int .i64 q1,.int .i64 q2,.int .i64 q3] 27)).alloc (.cells #[.slice none 0 0,.slice none 0 0,.slice none 0 0,.int .i64 0,.int .i64 0,.int .i64 0] 35)) x1) x2):=bqq;have z0:=(hBR.cell (p:=⟨w.heap.size + 1,0,none⟩) Sg).trans (show _ = some (.slice none 0 0) from by simp [go_sem]);have z1:=(hBR.cell (p:=⟨w.heap.size + 1,1,none⟩) Sg).trans (show _ = some (.slice none 0 0) from by simp [go_sem]);have z2:=(hBR.cell (p:=⟨w.heap.size + 1,2,none⟩) Sg).trans (show _ = some (.slice none 0 0) from by simp [go_sem]);have z3:=(hBR.cell (p:=⟨w.heap.size + 1,3,none⟩) Sg).trans (show _ = some (.int .i64 0) from by simp [go_sem]);have z4:=(hBR.cell (p:=⟨w.heap.size + 1,4,none⟩) Sg).trans (show _ = some (.int .i64 0) from by simp [go_sem]);have z5:=(hBR.cell (p:=⟨w.heap.size + 1,5,none⟩) Sg).trans (show _ = some (.int .i64 0) from by simp [go_sem]);have f0:=(hBR.frozen (p:=⟨w.heap.size + 1,0,none⟩) Sg).trans (show _ = false from by simp [go_sem]);have f1:=(hBR.frozen (p:=⟨w.heap.size + 1,1,none⟩) Sg).trans (show _ = false from by simp [go_sem]);have f2:=(hBR.frozen (p:=⟨w.heap.size + 1,2,none⟩) Sg).trans (show _ = false from by simp [go_sem]);have f3:=(hBR.frozen (p:=⟨w.heap.size + 1,3,none⟩) Sg).trans (show _ = false from by simp [go_sem]);have f4:=(hBR.frozen (p:=⟨w.heap.size + 1,4,none⟩) Sg).trans (show _ = false from by simp [go_sem]);have f5:=(hBR.frozen (p:=⟨w.heap.size + 1,5,none⟩) Sg).trans (show _ = false from by simp [go_sem]);have h1:=szOf (show Below ((w.alloc (.cells #[.slice A n c,.slice B m d,.int .i64 q0,.int .i64 q1,.int .i64 q2,.int .i64 q3] 27)).alloc (.cells #[.slice none 0 0,.slice none 0 0,.slice none 0 0,.int .i64 0,.int .i64 0,.int .i64 0] 35)).heap.size ((w.alloc (.cells #[.slice A n c,.slice B m d,.int .i64 q0,.int .i64 q1,.int .i64 q2,.int .i64 q3] 27)).alloc (.cells #[.slice none 0 0,.slice none 0 0,.slice none 0 0,.int .i64 0,.int .i64 0,.int .i64 0] 35)) (ext ((w.alloc (.cells #[.slice A n c,.slice B m d,.int .i64 q0,.int .i64 q1,.int .i64 q2,.int .i64 q3] 27)).alloc (.cells #[.slice none 0 0,.slice none 0 0,.slice none 0 0,.int .i64 0,.int .i64 0,.int .i64 0] 35)) x1) from bqq);simp only [show ∀ (W : World) (o : Obj),(W.alloc o).heap.size = W.heap.size + 1 from fun W o=>by simp [go_sem]] at h1;have hl9 : w.heap.size + 1 < (ext ((w.alloc (.cells #[.slice A n c,.slice B m d,.int .i64 q0,.int .i64 q1,.int .i64 q2,.int .i64 q3] 27)).alloc (.cells #[.slice none 0 0,.slice none 0 0,.slice none 0 0,.int .i64 0,.int .i64 0,.int .i64 0] 35)) x1).heap.size:=Om;have hbw : Below w.heap.size w (ext (ext ((w.alloc (.cells #[.slice A n c,.slice B m d,.int .i64 q0,.int .i64 q1,.int .i64 q2,.int .i64 q3] 27)).alloc (.cells #[.slice none 0 0,.slice none 0 0,.slice none 0 0,.int .i64 0,.int .i64 0,.int .i64 0] 35)) x1) x2):=bqq;clear hBR;have hbs : w.heap.size <= (ext ((w.alloc (.cells #[.slice A n c,.slice B m d,.int .i64 q0,.int .i64 q1,.int .i64 q2,.int .i64 q3] 27)).alloc (.cells #[.slice none 0 0,.slice none 0 0,.slice none 0 0,.int .i64 0,.int .i64 0,.int .i64 0] 35)) x1).heap.size:=Om;generalize (ext ((w.alloc (.cells #[.slice A n c,.slice B m d,.int .i64 q0,.int .i64 q1,.int .i64 q2,.int .i64 q3] 27)).alloc (.cells #[.slice none 0 0,.slice none 0 0,.slice none 0 0,.int .i64 0,.int .i64 0,.int .i64 0] 35)) x1).heap.size = bq at hF hl9 hbs;generalize hWB : (ext (ext ((w.alloc (.cells #[.slice A n c,.slice B m d,.int .i64 q0,.int .i64 q1,.int .i64 q2,.int .i64 q3] 27)).alloc (.cells #[.slice none 0 0,.slice none 0 0,.slice none 0 0,.int .i64 0,.int .i64 0,.int .i64 0] 35)) x1) x2) = WB at *;refine bodyPost_ret (v:=.tuple #[.agg #[.slice I n2 c2,.slice GA gn gc,.slice KA kn kc,.int .i64 (o.getD zPR).2.2.1.1,.int .i64 (o.getD zPR).2.2.1.2.1,.int .i64 (o.getD zPR).2.2.1.2.2],.int .i64 (o.getD zPR).2.2.2.1,.int .i64 (o.getD zPR).2.2.2.2,.bool o.isSome]) (by simp [results,Tryz.results9,go_sem,z0,z1,z2,z3,z4,z5]) rfl ?_;have G9:=(((((hF.setLow (k:=0) (v:=.slice I n2 c2) hl9).setLow (k:=1) (v:=.slice GA gn gc) hl9).setLow (k:=2) (v:=.slice KA kn kc) hl9).setLow (k:=3) (v:=.int .i64 (o.getD zPR).2.2.1.1) hl9).setLow (k:=4) (v:=.int .i64 (o.getD zPR).2.2.1.2.1) hl9).setLow (k:=5) (v:=.int .i64 (o.getD zPR).2.2.1.2.2) hl9;obtain ⟨z,hz⟩:=ext_ex (show Below w.heap.size w ((((((WB.setCell ⟨w.heap.size + 1,0,none⟩ (.slice I n2 c2)).setCell ⟨w.heap.size + 1,1,none⟩ (.slice GA gn gc)).setCell ⟨w.heap.size + 1,2,none⟩ (.slice KA kn kc)).setCell ⟨w.heap.size + 1,3,none⟩ (.int .i64 (o.getD zPR).2.2.1.1)).setCell ⟨w.heap.size + 1,4,none⟩ (.int .i64 (o.getD zPR).2.2.1.2.1)).setCell ⟨w.heap.size + 1,5,none⟩ (.int .i64 (o.getD zPR).2.2.1.2.2)) from bqq);have hsz : WB.heap.size = ((((((WB.setCell ⟨w.heap.size + 1,0,none⟩ (.slice I n2 c2)).setCell ⟨w.heap.size + 1,1,none⟩ (.slice GA gn gc)).setCell ⟨w.heap.size + 1,2,none⟩ (.slice KA kn kc)).setCell ⟨w.heap.size + 1,3,none⟩ (.int .i64 (o.getD zPR).2.2.1.1)).setCell ⟨w.heap.size + 1,4,none⟩ (.int .i64 (o.getD zPR).2.2.1.2.1)).setCell ⟨w.heap.size + 1,5,none⟩ (.int .i64 (o.getD zPR).2.2.1.2.2)).heap.size:=by simp [World.setCell]
  have G8:=G9.mono hbs (Nat.le_of_eq hsz);rw [hz] at G8;exact ⟨I,n2,c2,GA,gn,gc,KA,kn,kc,z,R,rfl,hz,G8,hP⟩
end Go.Proofs.YtlfhhkgleapamaaGreatDoor
