/- Contracts: ProtocolHolds, Renumbered, in the program. Conditions: strings below 2^20 bytes; the tables. -/
import Derived.Test.YtlfhhkgleapamaaGreatDoorRPar5s
set_option linter.unusedVariables false
set_option linter.unusedSimpArgs false
set_option maxRecDepth 100000
set_option maxHeartbeats 16000000
namespace Go.Proofs.YtlfhhkgleapamaaGreatDoor
open Go.RowKit
def holdsK (els : List El) (lims : List Int) (q0 q1 q2 q3 : Int) (s : ByteArray) : Bool:=codeB els lims q0 q1 q2 q3 && decide (s.size <= 4000)
def RetBB (w : World) (a b : Bool) (e : Ending) (w' : World) : Prop:=e = .returned (.tuple #[.bool a,.bool b]) /\ ∃ x,w' = ext w x
theorem RetBB.mk_ {w W : World} {a b a' b' : Bool} (ha : a' = a) (hb : b' = b) (h : Below w.heap.size w W) : RetBB w a b (.returned (.tuple #[.bool a',.bool b'])) W:=by
 subst ha hb;exact ⟨rfl,ext_ex h⟩
theorem implProtocolHolds_any (w : World) (A B : OA) (n m c d : Nat) (els : List El) (lims : List Int) (q0 q1 q2 q3 : Int) (hc : CodeR w A n B m els lims) (s : ByteArray) (hs : s.size <= 1048576) (hM : Mxl w) (hTab : Tab w) (hSg : Sgn w) :
  Calls Tryz.prog 13 #[.agg #[.slice A n c,.slice B m d,.int .i64 q0,.int .i64 q1,.int .i64 q2,.int .i64 q3],.string s] w (RetBB w (rdP els lims q0 q1 q2 q3 s).isSome (holdsK els lims q0 q1 q2 q3 s)):=by
 have ci:=fun W h=>isCode_any W A B n m c d els lims q0 q1 q2 q3 (hc.below h).1 (hc.below h).2.1 hc.2.2.1 hc.2.2.2.1 hc.2.2.2.2
 have cr:=fun W h=>readProtocol_any W A B n m c d els lims q0 q1 q2 q3 (hc.below h) s hs (hM.below h) (hTab.below h) (hSg.below h)
 simp only [rd_both] at cr;clear hM hTab hSg hc;have HK : Hid (holdsK els lims q0 q1 q2 q3 s = (codeB els lims q0 q1 q2 q3 && decide (s.size <= 4000))):=rfl
 cases hq : codeB els lims q0 q1 q2 q3
 ·
  have HE : Hid ((rdP els lims q0 q1 q2 q3 s).isSome = false):=by unfold Hid;rw [rd_code hq];rfl
  rw [hq] at ci HK;clear hq cr;go_enter Tryz.func13,Tryz.ntmps13;go_wp2_with ((go_at_call 44;((with_reducible refine ex (ci _ bqq) ?_);intro x1)))
  go_ret2;exact RetBB.mk_ (by rw [HE.out]) (by rw [HK.out];rfl) bqq
 ·
  by_cases hl : 4000 < s.size
  ·
   have HE : Hid ((rdP els lims q0 q1 q2 q3 s).isSome = false):=by unfold Hid;rw [rd_long hl];rfl
   have hlI : (4000 : Int) < s.size:=Om;have HK2 : Hid (holdsK els lims q0 q1 q2 q3 s = false):=by unfold Hid;rw [HK.out,decide_eq_false Om];simp
   rw [hq] at ci;clear hq cr HK;go_enter Tryz.func13,Tryz.ntmps13;go_wp2_with ((go_at_call 44;((with_reducible refine ex (ci _ bqq) ?_);intro x1)))
   go_ret2;exact RetBB.mk_ (by rw [HE.out]) (by rw [HK2.out]) bqq
  ·
   have hlI : ¬ (4000 : Int) < s.size:=Om;have HK2 : Hid (holdsK els lims q0 q1 q2 q3 s = true):=by unfold Hid;rw [HK.out,hq,decide_eq_true Om];rfl
   rw [hq] at ci;clear hq HK hl;generalize rdP els lims q0 q1 q2 q3 s = o at *;unfold RetRd at cr;go_enter Tryz.func13,Tryz.ntmps13;go_wp2_with (first | (go_at_call 44;((with_reducible refine ex (ci _ bqq) ?_);intro x1)) | (go_at_call 45;((with_reducible refine (cr _ bqq).mono ?_);rintro e w' ⟨I,n2,c2,GA,gn,gc,KA,kn,kc,x2,R,rfl,rfl,hF,hP⟩)))
   all_goals first | (exfalso;omega) | skip
   go_ret2;exact RetBB.mk_ rfl (by rw [HK2.out]) bqq
theorem rd_good {els : List El} {lims : List Int} {q0 q1 q2 q3 : Int} {s : ByteArray} {v : PR} (h : rdP els lims q0 q1 q2 q3 s = some v) : proB els lims q0 q1 q2 q3 v.1 v.2.1.1 v.2.1.2 v.2.2.1.1 v.2.2.1.2.1 v.2.2.1.2.2 v.2.2.2.1 v.2.2.2.2 = true:=by
 unfold rdP at h
 split at h
 ·
  have h2:=(accP_iff.1 h).2;simp only [accB,Bool.and_eq_true] at h2;exact h2.1
 ·
  cases h
def renV (els : List El) (q0 q1 q2 q3 : Int) (skater : Int) (o : Option PR) : ByteArray:=match o with
 | some v=>if inB skater 1 999 then textV els q0 q1 q2 q3 v.1 v.2.1.1 v.2.1.2 v.2.2.1.1 v.2.2.1.2.1 v.2.2.1.2.2 skater v.2.2.2.2 else ⟨#[]⟩
 | none=>⟨#[]⟩
theorem implRenumbered_any (w : World) (A B : OA) (n m c d : Nat) (els : List El) (lims : List Int) (q0 q1 q2 q3 : Int) (hc : CodeR w A n B m els lims) (s : ByteArray) (skater : Int) (hs : s.size <= 1048576) (hM : Mxl w) (hTab : Tab w) (hSg : Sgn w) :
  Calls Tryz.prog 20 #[.agg #[.slice A n c,.slice B m d,.int .i64 q0,.int .i64 q1,.int .i64 q2,.int .i64 q3],.string s,.int .i64 skater] w (RetSK w (renV els q0 q1 q2 q3 skater (rdP els lims q0 q1 q2 q3 s)) ((rdP els lims q0 q1 q2 q3 s).isSome && inB skater 1 999)):=by
 have cr:=fun W h=>implReadProtocol_any W A B n m c d els lims q0 q1 q2 q3 (hc.below h) s hs (hM.below h) (hTab.below h) (hSg.below h)
 have ck:=fun W=>isSkater_any skater W
 have hgood:=fun v=>@rd_good els lims q0 q1 q2 q3 s v
 generalize rdP els lims q0 q1 q2 q3 s = o at *;unfold RetRd at cr
 cases o with
 | none =>
  simp only [Option.isSome_none,Option.getD_none] at cr;clear hM hTab hSg hc hgood;go_enter Tryz.func20,Tryz.ntmps20;go_wp2_with ((go_at_call 9;((with_reducible refine (cr _ bqq).mono ?_);rintro e w' ⟨I,n2,c2,GA,gn,gc,KA,kn,kc,x2,R,rfl,rfl,hF,hP⟩)))
  go_ret2;exact RetSK.mk_ rfl rfl bqq
 | some v =>
  obtain ⟨its,⟨gg,kk⟩,⟨s1,s2,s3⟩,sk,fa⟩:=v;simp only [Option.isSome_some,Option.getD_some] at cr;have hB:=hgood _ rfl;simp only at hB;clear hgood
  cases hk : inB skater 1 999
  ·
   have HV : Hid (renV els q0 q1 q2 q3 skater (some (its,(gg,kk),(s1,s2,s3),sk,fa)) = ⟨#[]⟩):=by unfold Hid renV;simp only;rw [hk];rfl
   rw [hk] at ck;clear hM hTab hSg hc hB hk;go_enter Tryz.func20,Tryz.ntmps20;go_wp2_with (first | (go_at_call 9;((with_reducible refine (cr _ bqq).mono ?_);rintro e w' ⟨I,n2,c2,GA,gn,gc,KA,kn,kc,x2,R,rfl,rfl,hF,hP⟩)) | (go_at_call 39;(with_reducible refine ep (ck _) ?_)))
   go_ret2;exact RetSK.mk_ (by rw [HV.out]) rfl bqq
  ·
   have HV : Hid (renV els q0 q1 q2 q3 skater (some (its,(gg,kk),(s1,s2,s3),sk,fa)) = textV els q0 q1 q2 q3 its gg kk s1 s2 s3 skater fa):=by unfold Hid renV;simp only;rw [hk];rfl
   obtain ⟨hit,hPG,hfa,hsk⟩:=pro_of hB;have hskr:=inB_iff.1 hk;rw [hk] at ck;have hmk:=hPG.mks;have hlen:=hPG.len;have hmo:=marksB_of hmk;have hB2:=hPG;clear hB hk;have ct:=fun W (h1 : Below w.heap.size w W) (I : OA) (n2 c2 : Nat) (GA : OA) (gn gc : Nat) (KA : OA) (kn kc : Nat) (x2 : World) (R : Fam) (b hi : Nat) (hb : Below (ext (w.alloc (oC A n c B m d q0 q1 q2 q3)) x2).heap.size (ext (w.alloc (oC A n c B m d q0 q1 q2 q3)) x2) W) (hF : Fo b hi (ext (w.alloc (oC A n c B m d q0 q1 q2 q3)) x2) R) (hP : PfF R I n2 c2 its GA gn gc gg KA kn kc kk)=>protocolText_any W A B n m c d els q0 q1 q2 q3 I n2 c2 its GA KA gn gc kn kc gg kk s1 s2 s3 ⟨⟨(hc.below h1).1,hc.2.2.1⟩,⟨(hP.1.rd hF).below hb,hP.1.cap hF⟩,(hP.2.1.rd hF).below hb⟩ ((RdMk.of_len (hP.2.1.rd hF) (hP.2.2.rd hF) (by have:=hP.2.1.1;omega) (by have:=hP.2.2.1;omega) (marks_rows9 hmk)).below hb) hB2 (hTab.below h1) (hSg.below h1) skater fa hskr hfa
   clear hM hc;go_enter Tryz.func20,Tryz.ntmps20;go_wp2_with (first | (go_at_call 9;((with_reducible refine (cr _ bqq).mono ?_);rintro e w' ⟨I,n2,c2,GA,gn,gc,KA,kn,kc,x2,R,rfl,rfl,hF,hP⟩)) | (go_at_call 39;(with_reducible refine ep (ck _) ?_)) | (go_at_call 40;((with_reducible refine (ct _ bqq I n2 c2 GA gn gc KA kn kc x2 R _ _ bqq hF hP).mono ?_);rintro e w' ⟨rfl,x3,rfl⟩)))
   go_ret2;exact RetSK.mk_ (by rw [HV.out]) rfl bqq
def setIt (it : It) (j : Nat) (v : Int) : It:=(it.1,it.2.1.set j v,it.2.2)
def setIts (its : List It) (k j : Nat) (v : Int) : List It:=its.set k (setIt (its[k]?.getD zIt) j v)
theorem setIts_len (its : List It) (k j : Nat) (v : Int) : (setIts its k j v).length = its.length:=by simp [setIts]
theorem setIts_at {its : List It} {k : Nat} (j : Nat) (v : Int) (hk : k < its.length) : (setIts its k j v)[k]?.getD zIt = setIt (its[k]?.getD zIt) j v:=by simp [setIts,hk]
theorem setIts_ne {its : List It} {k i : Nat} (j : Nat) (v : Int) (h : i ≠ k) : (setIts its k j v)[i]?.getD zIt = its[i]?.getD zIt:=by unfold setIts;rw [List.getElem?_set_ne (fun e=>h e.symm)]
theorem all_set {α : Type} {P : α -> Bool} {l : List α} {k : Nat} {x : α} (h : l.all P = true) (hx : P x = true) : (l.set k x).all P = true:=List.all_eq_true.2 fun y hy=>by
 rcases List.mem_or_eq_of_mem_set hy with hy | rfl
 ·
  exact List.all_eq_true.1 h y hy
 ·
  exact hx
theorem itemB_set {it : It} {j : Nat} {v : Int} (h : itemB it = true) (hv : 0 <= v /\ v <= 3) : itemB (setIt it j v) = true:=by
 simp only [itemB,setIt,Bool.and_eq_true,decide_eq_true_eq,List.length_set] at h ⊢;exact ⟨h.1,h.2.1,h.2.2.1,all_set h.2.2.2 (inB_iff.2 hv)⟩
theorem perfB_set {els : List El} {lims : List Int} {q0 q1 q2 q3 : Int} {its : List It} {gg kk : List (List Int)} {s1 s2 s3 : Int} {k j : Nat} {v : Int} (h : perfB els lims q0 q1 q2 q3 its gg kk s1 s2 s3 = true) (hk : k < its.length) (hv : 0 <= v /\ v <= 3) : perfB els lims q0 q1 q2 q3 (setIts its k j v) gg kk s1 s2 s3 = true:=by
 simp only [perfB,judgedB,progB,mksB,itemsB,knowB,Bool.and_eq_true,decide_eq_true_eq,setIts_len] at h ⊢;have hm:=getD_mem zIt its k hk;exact ⟨⟨⟨h.1.1.1,⟨all_set h.1.1.2.1.1 (itemB_set (List.all_eq_true.1 h.1.1.2.1.1 _ hm) hv),h.1.1.2.1.2⟩,all_set h.1.1.2.2 (show knowIt els (setIt (its[k]?.getD zIt) j v) = true from (show knowIt els (its[k]?.getD zIt) = true from List.all_eq_true.1 h.1.1.2.2 _ hm))⟩,h.1.2⟩,h.2⟩
def recOk (its : List It) (k j v : Int) : Bool:=inB k 0 ((its.length : Int) - 1) && (inB j 0 (((its[k.toNat]?.getD zIt).1.length : Int) - 1) && inB v 0 3)
def recK (o : Option PR) (k j v : Int) : Bool:=match o with
 | some p=>recOk p.1 k j v
 | none=>false
def recT (els : List El) (q0 q1 q2 q3 : Int) (p : PR) (k j v : Int) : ByteArray:=textV els q0 q1 q2 q3 (setIts p.1 k.toNat j.toNat v) p.2.1.1 p.2.1.2 p.2.2.1.1 p.2.2.1.2.1 p.2.2.1.2.2 p.2.2.2.1 p.2.2.2.2
def recV (els : List El) (q0 q1 q2 q3 : Int) (o : Option PR) (k j v : Int) : ByteArray:=match o with
 | some p=>if recOk p.1 k j v then recT els q0 q1 q2 q3 p k j v else ⟨#[]⟩
 | none=>⟨#[]⟩
theorem recOk_of {its : List It} {k j v : Int} (h : recOk its k j v = true) : ∃ k' j' : Nat,k = k' /\ j = j' /\ k' < its.length /\ j' < (its[k']?.getD zIt).1.length /\ 0 <= v /\ v <= 3:=by
 simp only [recOk,Bool.and_eq_true] at h;have h1:=inB_iff.1 h.1;have h2:=inB_iff.1 h.2.1;have h3:=inB_iff.1 h.2.2;exact ⟨k.toNat,j.toNat,Om,Om,Om,Om,h3⟩
theorem ItF.mk_at {b hi : Nat} {w : World} {R : Fam} {I : OA} {n c : Nat} {its : List It} (h : ItF R I n c its) (hF : Fo b hi w R) {k : Nat} (hk : k < n) : ∃ g NA nn nc MA mn mc,I = some ⟨g,0,none⟩ /\ b <= g /\ g < w.heap.size /\ w.cell? ⟨g,k * 3,none⟩ = some (.slice NA nn nc) /\ w.cell? ⟨g,k * 3 + 1,none⟩ = some (.slice MA mn mc) /\ w.cell? ⟨g,k * 3 + 2,none⟩ = some (.bool (its[k]?.getD zIt).2.2) /\ R (3,k) = rowT NA nn nc (its[k]?.getD zIt).1 /\ R (4,k) = rowI MA mn mc (its[k]?.getD zIt).2.1 /\ ∀ (j : Nat) (v : Int),ItF (upd R (4,k) (rowI MA mn mc ((its[k]?.getD zIt).2.1.set j v))) I n c (setIts its k j v):=by
 obtain ⟨hl,⟨C,hC,h0,hj⟩,hz⟩:=h;have ho:=hF.1 (0,0);rw [h0] at ho;have ho : Ow 61 3 b w I n c (cells3 C):=ho;obtain ⟨g,rfl,hb,hg⟩:=ho.form_ Om;obtain ⟨NA,nn,nc,MA,mn,mc,e,q1,q2⟩:=hj k hk;obtain ⟨g0,g1,g2⟩:=cells3_get C k Om;rw [e] at g0 g1 g2;refine ⟨g,NA,nn,nc,MA,mn,mc,rfl,hb,hg,(Ow.cell_ ho _ Om).trans g0,(Ow.cell_ ho _ Om).trans g1,(Ow.cell_ ho _ Om).trans g2,q1,q2,fun j v=>⟨by rw [setIts_len];exact hl,⟨C,hC,by rw [upd_ne _ _ (by simp)];exact h0,fun i hi=>?_⟩,fun i hi=>?_⟩⟩
 ·
  by_cases ei : i = k
  ·
   subst ei;rw [setIts_at j v Om];exact ⟨NA,nn,nc,MA,mn,mc,e,by rw [upd_ne _ _ (by simp)];exact q1,by rw [upd_same];rfl⟩
  ·
   rw [setIts_ne j v ei];obtain ⟨NA',nn',nc',MA',mn',mc',e',q1',q2'⟩:=hj i hi;exact ⟨NA',nn',nc',MA',mn',mc',e',by rw [upd_ne _ _ (by simp)];exact q1',by rw [upd_ne _ _ (by simp [ei])];exact q2'⟩
 ·
  obtain ⟨z1,z2⟩:=hz i hi;exact ⟨by rw [upd_ne _ _ (by simp)];exact z1,by rw [upd_ne _ _ (by simp;omega)];exact z2⟩
section
variable {els : List El} {lims : List Int} {q0 q1 q2 q3 : Int} {its : List It} {gg kk : List (List Int)} {s1 s2 s3 sk fa : Int} {s : ByteArray} {v : PR}
theorem textV_size (hB : proB els lims q0 q1 q2 q3 its gg kk s1 s2 s3 sk fa = true) : (textV els q0 q1 q2 q3 its gg kk s1 s2 s3 sk fa).size <= 4000:=by
 obtain ⟨_,hP,hfa,hsk⟩:=pro_of hB;obtain ⟨hgr,hkr⟩:=marks_rows hP.mks;have hlen:=hP.len;have hmo:=marksB_of hP.mks;have zm:=marksS_size hgr hkr;have zsl : (slipS s1 s2 s3).size <= 63:=numsS_size (slip_rows hP.slip);have zt : (totS els q0 q1 q2 q3 its gg kk s1 s2 s3 fa).size <= 62:=totTo_size (parts_bd (factor:=fa) hP hfa) 4 (Nat.le_refl 4);have zh:=hdrS_size hsk hfa;have zln:=linesA_size (s:=hdrS sk fa) (f:=(lineS els q0 q1 q2 its gg)) its.length (fun j hj=>lineS_size hP j hj);have zl : ByteArray.size (⟨#[115,108,105,112,115,32]⟩ : ByteArray) = 6:=rfl;have ze : ByteArray.size (⟨#[10]⟩ : ByteArray) = 1:=rfl;unfold textV;simp only [ByteArray.size_append];have h1:=hmo.1;have h2:=hmo.2.1;omega
theorem rd_text_of (h : rdP els lims q0 q1 q2 q3 s = some v) : textV els q0 q1 q2 q3 v.1 v.2.1.1 v.2.1.2 v.2.2.1.1 v.2.2.1.2.1 v.2.2.1.2.2 v.2.2.2.1 v.2.2.2.2 = s:=by
 unfold rdP at h
 split at h
 ·
  have h2:=(accP_iff.1 h).2;simp only [accB,Bool.and_eq_true,beq_iff_eq] at h2;have h3:=h2.2;rw [Lib.toList_data,Lib.toList_data] at h3;rw [<- bs_of s,<- h3,bs_of]
 ·
  cases h
theorem rd_size (h : rdP els lims q0 q1 q2 q3 s = some v) : s.size <= 4000:=by
 unfold rdP at h
 split at h
 ·
  assumption
 ·
  cases h
theorem rd_text (hB : proB els lims q0 q1 q2 q3 its gg kk s1 s2 s3 sk fa = true) : rdP els lims q0 q1 q2 q3 (textV els q0 q1 q2 q3 its gg kk s1 s2 s3 sk fa) = some (its,(gg,kk),(s1,s2,s3),sk,fa):=by
 unfold rdP;rw [if_pos (textV_size hB)];have hb : accB els lims q0 q1 q2 q3 (textV els q0 q1 q2 q3 its gg kk s1 s2 s3 sk fa) (its,(gg,kk),(s1,s2,s3),sk,fa) = true:=by
  simp only [accB,Bool.and_eq_true];exact ⟨hB,by simp⟩
 exact accP_iff.2 ⟨(acc_text hb).1,hb⟩
end
/-! Lines that differ -/
def ltB (x y : List ByteArray) (k : Nat) : Bool:=decide (k < x.length) && (decide (k < y.length) && decide (x[k]?.getD ByteArray.empty = y[k]?.getD ByteArray.empty))
def difTo (x y : List ByteArray) : Nat -> List Int
 | 0=>[]
 | k + 1=>difTo x y k ++ (if ltB x y k then [] else [(k : Int) + 1])
def difV (x y : List ByteArray) : List Int:=difTo x y (max x.length y.length)
def difO (a b : ByteArray) : List Int:=if a.size <= 4000 /\ b.size <= 4000 then difV (spls 10 a) (spls 10 b) else []
def difB (a b : ByteArray) : Bool:=decide (a.size <= 4000) && decide (b.size <= 4000)
theorem difTo_len (x y : List ByteArray) : ∀ k,(difTo x y k).length <= k
 | 0=>Nat.le_refl _
 | k + 1=>by
  have:=difTo_len x y k;rw [difTo,List.length_append]
  split <;> simp <;> omega
theorem difTo_nil {x y : List ByteArray} : ∀ {k : Nat},difTo x y k = [] ↔ ∀ j,j < k -> ltB x y j = true
 | 0=>by simp [difTo]
 | k + 1=>by
  rw [difTo,List.append_eq_nil_iff,difTo_nil];constructor
  ·
   rintro ⟨h1,h2⟩ j hj;by_cases e : j = k
   ·
    subst e
    split at h2
    ·
     assumption
    ·
     cases h2
   ·
    exact h1 j Om
  ·
   intro h;exact ⟨fun j hj=>h j Om,by rw [if_pos (h k Om)]⟩
theorem difV_nil {x y : List ByteArray} : difV x y = [] ↔ x = y:=by
 unfold difV;rw [difTo_nil];constructor
 ·
  intro h;have hlen : x.length = y.length:=by
   rcases Nat.lt_trichotomy x.length y.length with h1 | h1 | h1
   ·
    have:=h x.length Om;simp [ltB] at this
   ·
    exact h1
   ·
    have:=h y.length Om;simp [ltB] at this
  refine List.ext_getElem hlen (fun k h1 h2=>?_);have:=h k Om;simp [ltB,h1,h2] at this;exact this
 ·
  rintro rfl j hj;simp [ltB];omega
theorem difTo_one {a b : ByteArray} {r : List ByteArray} : ∀ k,k <= r.length -> difTo (a :: r) (b :: r) (k + 1) = if a = b then [] else [1]
 | 0,_=>by simp [difTo,ltB]
 | k + 1,h=>by
  rw [difTo,difTo_one k Om];simp [ltB];omega
theorem difV_one {a b : ByteArray} {r : List ByteArray} : difV (a :: r) (b :: r) = if a = b then [] else [1]:=by
 unfold difV;rw [show max (a :: r).length (b :: r).length = r.length + 1 by simp];exact difTo_one _ (Nat.le_refl _)
theorem join_spl (c : UInt8) : ∀ l : Str,Lib.join (spl c l) [c] = l
 | []=>by rw [spl,Lib.join_one]
 | x :: r=>by
  have ih:=join_spl c r;rw [<- spl_ht c r,Lib.join_cons] at ih;unfold spl
  split
  ·
   rename_i e
   subst e;rw [<- spl_ht x r,Lib.join_cons];simp only [Lib.joinTail,List.nil_append,List.map_cons,List.flatten_cons,List.singleton_append,List.cons_append] at ih ⊢;rw [ih]
  ·
   rw [Lib.join_cons,List.cons_append,ih]
theorem spls_inj {c : UInt8} {a b : ByteArray} (h : spls c a = spls c b) : a = b:=by
 have h2 : spl c a.data.toList = spl c b.data.toList:=by rw [<- spls_data,<- spls_data,h]
 rw [<- bs_of a,<- bs_of b,<- join_spl c a.data.toList,h2,join_spl]
theorem dif_eq {a b : ByteArray} (h : difB a b = true) : difO a b = [] ↔ a = b:=by
 simp only [difB,Bool.and_eq_true,decide_eq_true_eq] at h;unfold difO;rw [if_pos h,difV_nil];exact ⟨spls_inj,fun e=>e ▸ rfl⟩
section
variable {els : List El} {lims : List Int} {q0 q1 q2 q3 : Int} {its : List It} {gg kk : List (List Int)} {s1 s2 s3 sk sk' fa : Int}
theorem spls_pro (hB : proB els lims q0 q1 q2 q3 its gg kk s1 s2 s3 sk fa = true) : ∃ r : List ByteArray,(∀ sk' : Int,1 <= sk' /\ sk' <= 999 -> spls 10 (textV els q0 q1 q2 q3 its gg kk s1 s2 s3 sk' fa) = bs (hdrL sk' fa) :: r):=by
 obtain ⟨hit,hP,hfa,hsk⟩:=pro_of hB;refine ⟨((linesL els q0 q1 q2 its gg ++ (rowsL gg kk ++ [wSli ++ 32 :: slipL s1 s2 s3,(totS els q0 q1 q2 q3 its gg kk s1 s2 s3 fa).data.toList])) ++ [[]]).map bs,fun x hx=>?_⟩;have:=spl_pro (els:=els) (q0:=q0) (q1:=q1) (q2:=q2) (q3:=q3) (gg:=gg) (kk:=kk) (s1:=s1) (s2:=s2) (s3:=s3) (sk:=x) (fa:=fa) hit hx hfa;unfold spls;rw [this];unfold proL
 simp
theorem dif_ren (hB : proB els lims q0 q1 q2 q3 its gg kk s1 s2 s3 sk fa = true) (hB' : proB els lims q0 q1 q2 q3 its gg kk s1 s2 s3 sk' fa = true) :
  difO (textV els q0 q1 q2 q3 its gg kk s1 s2 s3 sk fa) (textV els q0 q1 q2 q3 its gg kk s1 s2 s3 sk' fa) = [] ∨ difO (textV els q0 q1 q2 q3 its gg kk s1 s2 s3 sk fa) (textV els q0 q1 q2 q3 its gg kk s1 s2 s3 sk' fa) = [1]:=by
 obtain ⟨r,hr⟩:=spls_pro hB;unfold difO;rw [if_pos ⟨textV_size hB,textV_size hB'⟩,hr sk (pro_of hB).2.2.2,hr sk' (pro_of hB').2.2.2,difV_one]
 split
 ·
  exact .inl rfl
 ·
  exact .inr rfl
end
end Go.Proofs.YtlfhhkgleapamaaGreatDoor
