/- Contracts: SegmentScore, in the program and in the reference. Conditions: none. -/
import Derived.Test.YtlfhhkgleapamaaGreatDoorRPar7s
import Derived.Test.YtlfhhkgleapamaaGreatDoorRSpB
import Derived.Test.YtlfhhkgleapamaaGreatDoorRDrs
import Derived.StillTailTactics
set_option linter.unusedVariables false
set_option linter.unusedSimpArgs false
set_option maxRecDepth 100000
set_option maxHeartbeats 16000000
namespace Go.Proofs.YtlfhhkgleapamaaGreatDoor
open Go.RowKit
section
variable {els : List El} {lims : List Int} {q0 q1 q2 q3 : Int} {its : List It} {gg kk : List (List Int)} {s1 s2 s3 sk sk' fa : Int} {s : ByteArray}
theorem pro_code (h : proB els lims q0 q1 q2 q3 its gg kk s1 s2 s3 sk fa = true) : codeB els lims q0 q1 q2 q3 = true:=by
 cases hc : codeB els lims q0 q1 q2 q3
 ·
  simp [proB,askB,perfB,judgedB,progB,hc] at h
 ·
  rfl
theorem pro_holds (h : proB els lims q0 q1 q2 q3 its gg kk s1 s2 s3 sk fa = true) : holdsK els lims q0 q1 q2 q3 (textV els q0 q1 q2 q3 its gg kk s1 s2 s3 sk fa) = true:=by
 unfold holdsK;rw [pro_code h,decide_eq_true (textV_size h)];rfl
theorem pro_ren (h : proB els lims q0 q1 q2 q3 its gg kk s1 s2 s3 sk fa = true) (hs : inB sk' 1 999 = true) : proB els lims q0 q1 q2 q3 its gg kk s1 s2 s3 sk' fa = true:=by
 simp only [proB,Bool.and_eq_true] at h ⊢;exact ⟨h.1,hs⟩
theorem pro_set {k j : Nat} {v : Int} (h : proB els lims q0 q1 q2 q3 its gg kk s1 s2 s3 sk fa = true) (hk : k < its.length) (hv : 0 <= v /\ v <= 3) : proB els lims q0 q1 q2 q3 (setIts its k j v) gg kk s1 s2 s3 sk fa = true:=by
 simp only [proB,askB,Bool.and_eq_true] at h ⊢;exact ⟨⟨perfB_set h.1.1 hk hv,h.1.2⟩,h.2⟩
theorem ren_all {v : PR} (h : rdP els lims q0 q1 q2 q3 s = some v) (hs : inB sk' 1 999 = true) :
  ∃ t,renV els q0 q1 q2 q3 sk' (some v) = t /\ difB s t = true /\ (difO s t = [] ∨ difO s t = [1]) /\ rdP els lims q0 q1 q2 q3 t = some (v.1,v.2.1,v.2.2.1,sk',v.2.2.2.2) /\ holdsK els lims q0 q1 q2 q3 t = true /\ t.size <= 4000:=by
 have hB:=rd_good h;have hB':=pro_ren (sk':=sk') hB hs;obtain ⟨its,⟨gg,kk⟩,⟨s1,s2,s3⟩,sk,fa⟩:=v;simp only at hB hB';have ht:=rd_text_of h;simp only at ht;refine ⟨textV els q0 q1 q2 q3 its gg kk s1 s2 s3 sk' fa,?_,?_,?_,rd_text hB',pro_holds hB',textV_size hB'⟩
 ·
  unfold renV;simp only;rw [if_pos hs]
 ·
  unfold difB;rw [decide_eq_true (rd_size h),decide_eq_true (textV_size hB')];rfl
 ·
  rw [<- ht];exact dif_ren hB hB'
theorem rec_all {v : PR} {k j m : Int} (h : rdP els lims q0 q1 q2 q3 s = some v) (hk : recOk v.1 k j m = true) :
  ∃ (t : ByteArray) (k' j' : Nat),recV els q0 q1 q2 q3 (some v) k j m = t /\ k = k' /\ j = j' /\ k' < v.1.length /\ j' < (v.1[k']?.getD zIt).1.length /\ rdP els lims q0 q1 q2 q3 t = some (setIts v.1 k' j' m,v.2.1,v.2.2.1,v.2.2.2.1,v.2.2.2.2) /\ t.size <= 4000:=by
 have hB:=rd_good h;obtain ⟨k',j',rfl,rfl,h1,h2,hv⟩:=recOk_of hk;have hB':=pro_set (j:=j') hB h1 hv;obtain ⟨its,⟨gg,kk⟩,⟨s1,s2,s3⟩,sk,fa⟩:=v;simp only at hB hB' h1 h2 hk ⊢;refine ⟨textV els q0 q1 q2 q3 (setIts its k' j' m) gg kk s1 s2 s3 sk fa,k',j',?_,rfl,rfl,h1,h2,rd_text hB',textV_size hB'⟩;unfold recV recT;simp only;rw [if_pos hk]
 simp
end
theorem wtS_le {α : Type} {f : α -> Int} {c : Int} : ∀ {l : List α},(∀ x ∈ l,f x <= c) -> wtS f l <= l.length * c
 | [],_=>by simp [wtS]
 | a :: r,h=>by
  have h1:=wtS_le (l:=r) (fun x hx=>h x (by simp [hx]));have h2:=h a (by simp);have e : wtS f (a :: r) = f a + wtS f r:=by simp [wtS]
  rw [e,List.length_cons];have e2 : ((r.length + 1 : Nat) : Int) * c = (r.length : Int) * c + c:=by push_cast;rw [Int.add_mul,Int.one_mul]
  omega
theorem lenSum_wt (ll : List (List Int)) : lenSum ll = wtS (fun l : List Int=>(l.length : Int)) ll:=rfl
structure RdSm (v : PR) : Prop where
 small : ∀ x ∈ v.1,itSmall x
 len : v.1.length <= 14
 wt : wtS itWt v.1 <= 1048576
 sum : lenSum v.2.1.1 + lenSum v.2.1.2 <= 1048576
 gl : v.2.1.1.length <= 14
 kl : v.2.1.2.length <= 14
 rows : (∀ l ∈ v.2.1.1,l.length <= 2000001) /\ ∀ l ∈ v.2.1.2,l.length <= 2000001
theorem rdSm {els : List El} {lims : List Int} {q0 q1 q2 q3 : Int} {s : ByteArray} {o : Option PR} (ho : rdP els lims q0 q1 q2 q3 s = o) : RdSm (o.getD zPR):=by
 cases o with
 | none=>exact ⟨fun x hx=>by simp [zPR] at hx,by simp [zPR],by simp [zPR,wtS],by simp [zPR,lenSum],by simp [zPR],by simp [zPR],fun l hl=>by simp [zPR] at hl,fun l hl=>by simp [zPR] at hl⟩
 | some v =>
  obtain ⟨hit,hPG,hfa,hsk⟩:=pro_of (rd_good ho);have hm:=marksB_of hPG.mks;have hlen:=hPG.len;have hg9 : ∀ l ∈ v.2.1.1,(l.length : Int) <= 9:=fun l hl=>by
   obtain ⟨k,hk,rfl⟩:=List.getElem_of_mem hl;have:=(hm.2.2.2 k hk).1;rw [List.getElem?_eq_getElem hk] at this;simp only [Option.getD_some] at this;omega
  have hk9 : ∀ l ∈ v.2.1.2,(l.length : Int) <= 9:=fun l hl=>by
   have h:=hPG.mks;simp only [marksB,Bool.and_eq_true] at h;have h2:=List.all_eq_true.1 h.2.1.2 l hl;simp only [cRowB,Bool.and_eq_true,decide_eq_true_eq] at h2;have:=hm.2.2.1;omega
  have w1:=wtS_le (f:=itWt) (c:=7) (l:=v.1) (fun x hx=>by
   have h:=item_of (hit x hx);unfold itWt;omega)
  have w2:=wtS_le hg9;have w3:=wtS_le hk9;rw [<- lenSum_wt] at w2 w3;refine ⟨fun x hx=>item_small (hit x hx),hlen,?_,?_,hm.2.1,?_,marks_rows9 hPG.mks⟩
  ·
   simp only [Option.getD_some];omega
  ·
   simp only [Option.getD_some];omega
  ·
   simp only [Option.getD_some];omega
theorem difB_no {a b : ByteArray} (h : ¬ (a.size <= 4000 /\ b.size <= 4000)) : difB a b = false /\ difO a b = []:=by
 refine ⟨?_,by unfold difO;rw [if_neg h]⟩;unfold difB;rw [Bool.and_eq_false_iff]
 rcases Decidable.not_and_iff_or_not.1 h with h | h
 ·
  exact .inl (by simpa using h)
 ·
  exact .inr (by simpa using h)
theorem difB_yes {a b : ByteArray} (h1 : a.size <= 4000) (h2 : b.size <= 4000) : difB a b = true /\ difO a b = difV (spls 10 a) (spls 10 b):=by
 refine ⟨by simp [difB,h1,h2],by unfold difO;rw [if_pos ⟨h1,h2⟩]⟩
theorem difTo_eq {x y : List ByteArray} {k : Nat} (h : ltB x y k = true) : difTo x y (k + 1) = difTo x y k:=by rw [difTo,h];simp
theorem difTo_ne {x y : List ByteArray} {k : Nat} (h : ltB x y k = false) : difTo x y (k + 1) = difTo x y k ++ [(k : Int) + 1]:=by rw [difTo,h];simp
theorem specDifferLines_any (a b : ByteArray) (w : World) (ha : a.size <= 1048576) (hb : b.size <= 1048576) :
  Calls Tryz.prog 23 #[.string a,.string b] w (RetIB w (difO a b) (difB a b)):=by
 have cl:=fun W=>ptLong_any a W ha
 have cl2:=fun W=>ptLong_any b W hb
 by_cases h1 : a.size <= 4000
 ·
  by_cases h2 : b.size <= 4000
  ·
   have h1I : ¬ (4000 : Int) < a.size:=Om;have h2I : ¬ (4000 : Int) < b.size:=Om;have h1J : (a.size : Int) <= 4000:=Om;have h2J : (b.size : Int) <= 4000:=Om;obtain ⟨HB,HO⟩:=difB_yes h1 h2;have HB:=Lib.hid HB;have HO:=Lib.hid HO;have cs1:=fun W=>l1Split_any a 10 10 rfl W Om
   have cs2:=fun W=>l1Split_any b 10 10 rfl W Om
   have hb1:=spls_bd 10 a;have hb2:=spls_bd 10 b;go_enter Tryz.func23,Tryz.ntmps23;go_wp2_with (first | (go_at_call 52;(with_reducible refine ep (cl _) ?_)) | (go_at_call 52;(with_reducible refine ep (cl2 _) ?_)) | (go_at_call 55;((with_reducible refine (cs1 _).mono ?_);rintro e w' ⟨X,N1,d1,x1,rfl,rfl,oX⟩;clear cs1)) | (go_at_call 55;((with_reducible refine (cs2 _).mono ?_);rintro e w' ⟨Y,N2,d2,x2,rfl,rfl,oY⟩)))
   have eX:=oX.len;have eY:=oY.len;have BW:=(show Below w.heap.size w (ext (ext w x1) x2) from bL);have rX : RdT (ext (ext w x1) x2) X N1 (spls 10 a):=oX.rd.below bL;have rY : RdT (ext (ext w x1) x2) Y N2 (spls 10 b):=oY.rd;clear cs2 oX oY;generalize ext (ext w x1) x2 = W2 at *;generalize spls 10 a = LX at *;generalize spls 10 b = LY at *;have eX:=Lib.hid eX;have eY:=Lib.hid eY;go_wp2_with fail
   go_loopw [8,9] (fun s i wr=>∃ (k : Nat) (D : OA) (dn dc : Nat),k <= max N1 N2 /\ i = .int .i64 k /\ s = .slice D dn dc /\ dn <= k /\ Below W2.heap.size W2 wr /\ OwI W2.heap.size wr D dn dc (difTo LX LY k)) (fun _ i _=>max N1 N2 - (intOf i).toNat)
   case atStart=>exact ⟨0,none,0,0,Nat.zero_le _,rfl,rfl,Nat.le_refl _,Below.refl _ _,OwI.nil_⟩
   case round =>
    obtain ⟨k,D,dn,dc,hk,rfl,rfl,hdk,hB,oD⟩:=hrel;have hBs:=hB.size;by_cases hX : k < N1
    ·
     have hXI : (k : Int) < N1:=Om;have hX2 : ¬ (N1 : Int) <= k:=Om;by_cases hY : k < N2
     ·
      have hYI : (k : Int) < N2:=Om;have hY2 : ¬ (N2 : Int) <= k:=Om;have hMI : (k : Int) < max (N1 : Int) (N2 : Int):=Om;obtain ⟨b1,o1,rfl,hb1',hc1⟩:=rX.open_ Om;obtain ⟨b2,o2,rfl,hb2',hc2⟩:=rY.open_ Om;have hq1:=(hB.cell (p:=⟨b1,o1 + k,none⟩) hb1').trans (hc1 k hX);have hq2:=(hB.cell (p:=⟨b2,o2 + k,none⟩) hb2').trans (hc2 k hY);have hl1 : b1 < wr.heap.size:=Om;have hl2 : b2 < wr.heap.size:=Om;have hl : ltB LX LY k = decide (LX[k]?.getD ByteArray.empty = LY[k]?.getD ByteArray.empty):=by unfold ltB;rw [eX.out,eY.out];simp [hX,hY]
      have HL:=Lib.hid hl;clear hc1 hc2 hl rX rY;generalize LX[k]?.getD ByteArray.empty = sx at *;generalize LY[k]?.getD ByteArray.empty = sy at *;by_cases he : sx = sy
      ·
       subst he;go_wp2;have hXI : (k : Int) < N1:=Om;have hYI : (k : Int) < N2:=Om;have hX1 : ¬ N1 <= k:=Om;have hY1 : ¬ N2 <= k:=Om
       go_quiet (fail)
       go_wp2;go_roundw
       case rel=>exact ⟨k + 1,D,dn,dc,Om,by go_num,rfl,Om,bL,by rw [difTo_eq (by rw [HL.out];simp)];exact oD.below bL⟩
       case measure=>simp [intOf];omega
      ·
       have heB : (sx.toList == sy.toList) = false:=by
        rw [beq_eq_false_iff_ne];intro e;rw [Lib.toList_data,Lib.toList_data] at e;exact he (by rw [<- bs_of sx,e,bs_of])
       have HN : Hid (ltB LX LY k = false):=by unfold Hid;rw [HL.out];simp [he]
       go_wp2;have hXI : (k : Int) < N1:=Om;have hYI : (k : Int) < N2:=Om;have hX1 : ¬ N1 <= k:=Om;have hY1 : ¬ N2 <= k:=Om
       go_quiet (fail)
       have oD2:=oD.below (bDrewN (Below.refl wr.heap.size wr) nq);have hB2:=hB.trans ((bDrewN (Below.refl wr.heap.size wr) nq).mono hB.size);have hd1 : dn + 1 <= 1099511627776:=Om;go_wp2_with (at_builtin;(refine wpl_step fun E=>?_);refine app_int rfl _ _ (Nat.le_trans hB2.size (by simp)) rfl rfl hd1 rfl (oD2.below (bAlloc (Below.refl _ _) _)) (newI _ _) ?_;intro A' c' w' ho hg hd)
       have hB3 : Below W2.heap.size W2 w':=below_grown (hB2.trans ((bAlloc (Below.refl _ _) _).mono hB2.size)) hg (fun z hz=>(oD.blk hz).1);go_roundw
       case rel=>exact ⟨k + 1,A',dn + 1,c',Om,by go_num,rfl,Om,hB3,by rw [difTo_ne HN.out];exact ho⟩
       case measure=>simp [intOf];omega
     ·
      have hY2 : (N2 : Int) <= k:=Om;have hMI : (k : Int) < max (N1 : Int) (N2 : Int):=Om;have hYI : ¬ (k : Int) < N2:=Om;have HN : Hid (ltB LX LY k = false):=by unfold Hid ltB;rw [eX.out,eY.out];simp [hX,hY]
      go_wp2;have hXI : (k : Int) < N1:=Om;have hX1 : ¬ N1 <= k:=Om;have hY2 : (N2 : Int) <= k:=Om
      go_quiet (fail)
      have oD2:=oD.below (bDrewN (Below.refl wr.heap.size wr) nq);have hB2:=hB.trans ((bDrewN (Below.refl wr.heap.size wr) nq).mono hB.size);have hd1 : dn + 1 <= 1099511627776:=Om;go_wp2_with (at_builtin;(refine wpl_step fun E=>?_);refine app_int rfl _ _ (Nat.le_trans hB2.size (by simp)) rfl rfl hd1 rfl (oD2.below (bAlloc (Below.refl _ _) _)) (newI _ _) ?_;intro A' c' w' ho hg hd)
      have hB3 : Below W2.heap.size W2 w':=below_grown (hB2.trans ((bAlloc (Below.refl _ _) _).mono hB2.size)) hg (fun z hz=>(oD.blk hz).1);go_roundw
      case rel=>exact ⟨k + 1,A',dn + 1,c',Om,by go_num,rfl,Om,hB3,by rw [difTo_ne HN.out];exact ho⟩
      case measure=>simp [intOf];omega
    ·
     have hX2 : (N1 : Int) <= k:=Om;have hXI : ¬ (k : Int) < N1:=Om;by_cases hY : k < N2
     ·
      have hYI : (k : Int) < N2:=Om;have hMI : (k : Int) < max (N1 : Int) (N2 : Int):=Om;have HN : Hid (ltB LX LY k = false):=by unfold Hid ltB;rw [eX.out,eY.out];simp [hX,hY]
      go_wp2;have hX2 : (N1 : Int) <= k:=Om;have hYI : (k : Int) < N2:=Om;have hY1 : ¬ N2 <= k:=Om
      go_quiet (fail)
      have oD2:=oD.below (bDrewN (Below.refl wr.heap.size wr) nq);have hB2:=hB.trans ((bDrewN (Below.refl wr.heap.size wr) nq).mono hB.size);have hd1 : dn + 1 <= 1099511627776:=Om;go_wp2_with (at_builtin;(refine wpl_step fun E=>?_);refine app_int rfl _ _ (Nat.le_trans hB2.size (by simp)) rfl rfl hd1 rfl (oD2.below (bAlloc (Below.refl _ _) _)) (newI _ _) ?_;intro A' c' w' ho hg hd)
      have hB3 : Below W2.heap.size W2 w':=below_grown (hB2.trans ((bAlloc (Below.refl _ _) _).mono hB2.size)) hg (fun z hz=>(oD.blk hz).1);go_roundw
      case rel=>exact ⟨k + 1,A',dn + 1,c',Om,by go_num,rfl,Om,hB3,by rw [difTo_ne HN.out];exact ho⟩
      case measure=>simp [intOf];omega
     ·
      have hYI : ¬ (k : Int) < N2:=Om;have hMI : ¬ (k : Int) < max (N1 : Int) (N2 : Int):=Om;have hkM : k = max N1 N2:=Om;go_wp2;go_ret2
      (try rw [HB.out])
      (try rw [HO.out])
      unfold difV;rw [eX.out,eY.out,<- hkM];exact RetIB.mk_ oD BW.size (BW.trans (hB.mono BW.size))
  ·
   have h2I : (4000 : Int) < b.size:=Om;obtain ⟨HB,HO⟩:=difB_no (a:=a) (b:=b) (fun h=>h2 h.2);have h1I : ¬ (4000 : Int) < a.size:=Om;go_enter Tryz.func23,Tryz.ntmps23;go_wp2_with (first | (go_at_call 52;(with_reducible refine ep (cl _) ?_)) | (go_at_call 52;(with_reducible refine ep (cl2 _) ?_)))
   go_ret2
   (try rw [HB])
   (try rw [HO])
   exact RetIB.mk_ OwI.nil_ (Nat.le_refl _) bL
 ·
  have h1I : (4000 : Int) < a.size:=Om;obtain ⟨HB,HO⟩:=difB_no (a:=a) (b:=b) (fun h=>h1 h.1);go_enter Tryz.func23,Tryz.ntmps23;go_wp2_with (first | (go_at_call 52;(with_reducible refine ep (cl _) ?_)) | (go_at_call 52;(with_reducible refine ep (cl2 _) ?_)))
  go_ret2
  (try rw [HB])
  (try rw [HO])
  exact RetIB.mk_ OwI.nil_ (Nat.le_refl _) bL
theorem implDifferLines_any (a b : ByteArray) (w : World) (ha : a.size <= 1048576) (hb : b.size <= 1048576) (hM : Mxl w) :
  Calls Tryz.prog 22 #[.string a,.string b] w (RetIB w (difO a b) (difB a b)):=by
 by_cases h1 : a.size <= 4000
 ·
  by_cases h2 : b.size <= 4000
  ·
   have h1I : ¬ (4000 : Int) < a.size:=Om;have h2I : ¬ (4000 : Int) < b.size:=Om;have h1J : (a.size : Int) <= 4000:=Om;have h2J : (b.size : Int) <= 4000:=Om;obtain ⟨HB,HO⟩:=difB_yes h1 h2;have HB:=Lib.hid HB;have HO:=Lib.hid HO;have cs1:=fun W h=>split_any a 10 W Om (hM.below h)
   have cs2:=fun W h=>split_any b 10 W Om (hM.below h)
   have hb1:=spls_bd 10 a;have hb2:=spls_bd 10 b;go_enter Tryz.func22,Tryz.ntmps22;go_wp2_with (first  | (go_at_call 54;((with_reducible refine (cs1 _ bL).mono ?_);rintro e w' ⟨X,N1,d1,x1,rfl,rfl,oX⟩;clear cs1)) | (go_at_call 54;((with_reducible refine (cs2 _ bL).mono ?_);rintro e w' ⟨Y,N2,d2,x2,rfl,rfl,oY⟩)))
   have eX:=oX.len;have eY:=oY.len;have BW:=(show Below w.heap.size w (ext (ext w x1) x2) from bL);have rX : RdT (ext (ext w x1) x2) X N1 (spls 10 a):=oX.rd.below bL;have rY : RdT (ext (ext w x1) x2) Y N2 (spls 10 b):=oY.rd;clear cs2 oX oY;generalize ext (ext w x1) x2 = W2 at *;generalize spls 10 a = LX at *;generalize spls 10 b = LY at *;have eX:=Lib.hid eX;have eY:=Lib.hid eY;have o0:=OwI.lit_ (Below.refl W2.heap.size W2) [] (by simp [maxLen]) #[] rfl;go_wp2_with fail
   go_loopw [8,9,28] (fun s _ i wr=>∃ (k : Nat) (D : OA) (dn dc : Nat),k <= max N1 N2 /\ i = .int .i64 k /\ s = .slice D dn dc /\ dn <= k /\ Below W2.heap.size W2 wr /\ OwI W2.heap.size wr D dn dc (difTo LX LY k)) (fun _ _ i _=>max N1 N2 - (intOf i).toNat)
   case atStart=>exact ⟨0,some ⟨W2.heap.size,0,none⟩,0,0,Nat.zero_le _,rfl,rfl,Nat.le_refl _,bAlloc (Below.refl _ _) _,o0⟩
   case round =>
    obtain ⟨k,D,dn,dc,hk,rfl,rfl,hdk,hB,oD⟩:=hrel;have hBs:=hB.size;by_cases hX : k < N1
    ·
     have hXI : (k : Int) < N1:=Om;have hX2 : ¬ (N1 : Int) <= k:=Om;by_cases hY : k < N2
     ·
      have hYI : (k : Int) < N2:=Om;have hY2 : ¬ (N2 : Int) <= k:=Om;have hMI : (k : Int) < max (N1 : Int) (N2 : Int):=Om;obtain ⟨b1,o1,rfl,hb1',hc1⟩:=rX.open_ Om;obtain ⟨b2,o2,rfl,hb2',hc2⟩:=rY.open_ Om;have hq1:=(hB.cell (p:=⟨b1,o1 + k,none⟩) hb1').trans (hc1 k hX);have hq2:=(hB.cell (p:=⟨b2,o2 + k,none⟩) hb2').trans (hc2 k hY);have hl1 : b1 < wr.heap.size:=Om;have hl2 : b2 < wr.heap.size:=Om;have hl : ltB LX LY k = decide (LX[k]?.getD ByteArray.empty = LY[k]?.getD ByteArray.empty):=by unfold ltB;rw [eX.out,eY.out];simp [hX,hY]
      have HL:=Lib.hid hl;clear hc1 hc2 hl rX rY;generalize LX[k]?.getD ByteArray.empty = sx at *;generalize LY[k]?.getD ByteArray.empty = sy at *;by_cases he : sx = sy
      ·
       subst he;go_wp2;have hXI : (k : Int) < N1:=Om;have hYI : (k : Int) < N2:=Om;have hX1 : ¬ N1 <= k:=Om;have hY1 : ¬ N2 <= k:=Om
       go_quiet (fail)
       go_wp2;go_roundw
       case rel=>exact ⟨k + 1,D,dn,dc,Om,by go_num,rfl,Om,bL,by rw [difTo_eq (by rw [HL.out];simp)];exact oD.below bL⟩
       case measure=>simp [intOf];omega
      ·
       have heB : (sx.toList == sy.toList) = false:=by
        rw [beq_eq_false_iff_ne];intro e;rw [Lib.toList_data,Lib.toList_data] at e;exact he (by rw [<- bs_of sx,e,bs_of])
       have HN : Hid (ltB LX LY k = false):=by unfold Hid;rw [HL.out];simp [he]
       go_wp2;have hXI : (k : Int) < N1:=Om;have hYI : (k : Int) < N2:=Om;have hX1 : ¬ N1 <= k:=Om;have hY1 : ¬ N2 <= k:=Om
       go_quiet (fail)
       have oD2:=oD.below (bDrewN (Below.refl wr.heap.size wr) nq);have hB2:=hB.trans ((bDrewN (Below.refl wr.heap.size wr) nq).mono hB.size);have hd1 : dn + 1 <= 1099511627776:=Om;go_wp2_with (at_builtin;(refine wpl_step fun E=>?_);refine app_int rfl _ _ (Nat.le_trans hB2.size (by simp)) rfl rfl hd1 rfl (oD2.below (bAlloc (Below.refl _ _) _)) (newI _ _) ?_;intro A' c' w' ho hg hd)
       have hB3 : Below W2.heap.size W2 w':=below_grown (hB2.trans ((bAlloc (Below.refl _ _) _).mono hB2.size)) hg (fun z hz=>(oD.blk hz).1);go_roundw
       case rel=>exact ⟨k + 1,A',dn + 1,c',Om,by go_num,rfl,Om,hB3,by rw [difTo_ne HN.out];exact ho⟩
       case measure=>simp [intOf];omega
     ·
      have hY2 : (N2 : Int) <= k:=Om;have hMI : (k : Int) < max (N1 : Int) (N2 : Int):=Om;have hYI : ¬ (k : Int) < N2:=Om;have HN : Hid (ltB LX LY k = false):=by unfold Hid ltB;rw [eX.out,eY.out];simp [hX,hY]
      go_wp2;have hXI : (k : Int) < N1:=Om;have hX1 : ¬ N1 <= k:=Om;have hY2 : (N2 : Int) <= k:=Om
      go_quiet (fail)
      have oD2:=oD.below (bDrewN (Below.refl wr.heap.size wr) nq);have hB2:=hB.trans ((bDrewN (Below.refl wr.heap.size wr) nq).mono hB.size);have hd1 : dn + 1 <= 1099511627776:=Om;go_wp2_with (at_builtin;(refine wpl_step fun E=>?_);refine app_int rfl _ _ (Nat.le_trans hB2.size (by simp)) rfl rfl hd1 rfl (oD2.below (bAlloc (Below.refl _ _) _)) (newI _ _) ?_;intro A' c' w' ho hg hd)
      have hB3 : Below W2.heap.size W2 w':=below_grown (hB2.trans ((bAlloc (Below.refl _ _) _).mono hB2.size)) hg (fun z hz=>(oD.blk hz).1);go_roundw
      case rel=>exact ⟨k + 1,A',dn + 1,c',Om,by go_num,rfl,Om,hB3,by rw [difTo_ne HN.out];exact ho⟩
      case measure=>simp [intOf];omega
    ·
     have hX2 : (N1 : Int) <= k:=Om;have hXI : ¬ (k : Int) < N1:=Om;by_cases hY : k < N2
     ·
      have hYI : (k : Int) < N2:=Om;have hMI : (k : Int) < max (N1 : Int) (N2 : Int):=Om;have HN : Hid (ltB LX LY k = false):=by unfold Hid ltB;rw [eX.out,eY.out];simp [hX,hY]
      go_wp2;have hX2 : (N1 : Int) <= k:=Om;have hYI : (k : Int) < N2:=Om;have hY1 : ¬ N2 <= k:=Om
      go_quiet (fail)
      have oD2:=oD.below (bDrewN (Below.refl wr.heap.size wr) nq);have hB2:=hB.trans ((bDrewN (Below.refl wr.heap.size wr) nq).mono hB.size);have hd1 : dn + 1 <= 1099511627776:=Om;go_wp2_with (at_builtin;(refine wpl_step fun E=>?_);refine app_int rfl _ _ (Nat.le_trans hB2.size (by simp)) rfl rfl hd1 rfl (oD2.below (bAlloc (Below.refl _ _) _)) (newI _ _) ?_;intro A' c' w' ho hg hd)
      have hB3 : Below W2.heap.size W2 w':=below_grown (hB2.trans ((bAlloc (Below.refl _ _) _).mono hB2.size)) hg (fun z hz=>(oD.blk hz).1);go_roundw
      case rel=>exact ⟨k + 1,A',dn + 1,c',Om,by go_num,rfl,Om,hB3,by rw [difTo_ne HN.out];exact ho⟩
      case measure=>simp [intOf];omega
     ·
      have hYI : ¬ (k : Int) < N2:=Om;have hMI : ¬ (k : Int) < max (N1 : Int) (N2 : Int):=Om;have hkM : k = max N1 N2:=Om;go_wp2;go_ret2
      (try rw [HB.out])
      (try rw [HO.out])
      unfold difV;rw [eX.out,eY.out,<- hkM];exact RetIB.mk_ oD BW.size (BW.trans (hB.mono BW.size))
  ·
   have h2I : (4000 : Int) < b.size:=Om;obtain ⟨HB,HO⟩:=difB_no (a:=a) (b:=b) (fun h=>h2 h.2);have h1I : ¬ (4000 : Int) < a.size:=Om;go_enter Tryz.func22,Tryz.ntmps22;go_wp2_with (first | fail)
   go_ret2
   (try rw [HB])
   (try rw [HO])
   exact RetIB.mk_ OwI.nil_ (Nat.le_refl _) bL
 ·
  have h1I : (4000 : Int) < a.size:=Om;obtain ⟨HB,HO⟩:=difB_no (a:=a) (b:=b) (fun h=>h1 h.1);go_enter Tryz.func22,Tryz.ntmps22;go_wp2_with (first | fail)
  go_ret2
  (try rw [HB])
  (try rw [HO])
  exact RetIB.mk_ OwI.nil_ (Nat.le_refl _) bL
end Go.Proofs.YtlfhhkgleapamaaGreatDoor
