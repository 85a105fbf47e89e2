/- Two performances that read alike are told to be the same. Conditions: lengths below 2^40. -/
import Derived.Test.YtlfhhkgleapamaaGreatDoorRPar7s
import Derived.Deep.RegionHeld3
import Derived.Test.YtlfhhkgleapamaaGreatDoorRDr113
import Derived.Test.YtlfhhkgleapamaaGreatDoorRSegs
import Derived.Test.YtlfhhkgleapamaaGreatDoorRSpB
import Derived.Test.YtlfhhkgleapamaaGreatDoorRReads
import Derived.Test.YtlfhhkgleapamaaGreatDoorRRecs
import Derived.Deep.DeepCutAuto
set_option linter.unusedVariables false
set_option linter.unusedSimpArgs false
set_option maxRecDepth 100000
set_option maxHeartbeats 16000000
namespace Go.Proofs.YtlfhhkgleapamaaGreatDoor
open Go.RowKit Go.ChangeShapes Go.WideShapes Go.ChangeAt
theorem drewN_add (w : World) (a b : Nat) : (w.drewN a).drewN b = w.drewN (a + b):=by simp [World.drewN,Nat.add_assoc]
theorem sameIntsQ_any (w : World) (A B : OA) (n m c d : Nat) (l : List Int) (ha : RdI w A n l) (hb : RdI w B m l) (hn : n <= 1099511627776) :
  Calls Tryz.prog 24 #[.slice A n c,.slice B m d] w fun e w'=>e = .returned (.bool true) /\ ∃ q,w' = w.drewN q:=by
 obtain rfl : n = m:=ha.len.symm.trans hb.len;go_enter Tryz.func24,Tryz.ntmps24;go_wp2
 go_loopw [5,13] (fun _ i wr=>∃ k q,k <= n /\ i = .int .i64 (k : Nat) /\ wr = w.drewN q) (fun _ i _=>n - (intOf i).toNat)
 case atStart=>exact ⟨0,0,Nat.zero_le _,rfl,rfl⟩
 case round =>
  obtain ⟨k,q,hk,rfl,rfl⟩:=hrel;by_cases hlt : k < n
  ·
   obtain ⟨b1,o1,rfl,hb1,hc1⟩:=ha.open_ Om;obtain ⟨b2,o2,rfl,hb2,hc2⟩:=hb.open_ Om;have hq1:=hc1 k hlt;have hq2:=hc2 k hlt;clear hc1 hc2;generalize l.getD k 0 = sk at *;go_wp2
   go_quiet (fail)
   go_wp2;go_roundw
   case rel=>exact ⟨k + 1,_,Om,by go_num,rfl⟩
   case measure=>simp [intOf];omega
  ·
   go_wp2;go_ret;exact ⟨rfl,_,rfl⟩
theorem pSameNamesQ_any (w : World) (A B : OA) (n m c d : Nat) (l : List ByteArray) (ha : RdT w A n l) (hb : RdT w B m l) (hn : n <= 1099511627776) :
  Calls Tryz.prog 96 #[.slice A n c,.slice B m d] w fun e w'=>e = .returned (.bool true) /\ ∃ q,w' = w.drewN q:=by
 obtain rfl : n = m:=ha.len.symm.trans hb.len;go_enter Tryz.func96,Tryz.ntmps96;go_wp2
 go_loopw [5,13] (fun _ i wr=>∃ k q,k <= n /\ i = .int .i64 (k : Nat) /\ wr = w.drewN q) (fun _ i _=>n - (intOf i).toNat)
 case atStart=>exact ⟨0,0,Nat.zero_le _,rfl,rfl⟩
 case round =>
  obtain ⟨k,q,hk,rfl,rfl⟩:=hrel;by_cases hlt : k < n
  ·
   obtain ⟨b1,o1,rfl,hb1,hc1⟩:=ha.open_ Om;obtain ⟨b2,o2,rfl,hb2,hc2⟩:=hb.open_ Om;have hq1:=hc1 k hlt;have hq2:=hc2 k hlt;clear hc1 hc2;generalize l[k]?.getD ByteArray.empty = sk at *;go_wp2
   go_quiet (fail)
   go_wp2;go_roundw
   case rel=>exact ⟨k + 1,_,Om,by go_num,rfl⟩
   case measure=>simp [intOf];omega
  ·
   go_wp2;go_ret;exact ⟨rfl,_,rfl⟩
theorem sameListsQ_any (w : World) (A B : OA) (n m c d : Nat) (ll : List (List Int)) (ha : RdM w A n ll) (hb : RdM w B m ll) (hn : n <= 1099511627776) (hrows : ∀ j,j < n -> (ll[j]?.getD []).length <= 1099511627776) :
  Calls Tryz.prog 49 #[.slice A n c,.slice B m d] w fun e w'=>e = .returned (.bool true) /\ ∃ q,w' = w.drewN q:=by
 obtain rfl : n = m:=ha.len.symm.trans hb.len;go_enter Tryz.func49,Tryz.ntmps49;go_wp2
 go_loopw [5,13] (fun _ i wr=>∃ k,k <= n /\ i = .int .i64 (k : Nat) /\ ∃ q,Hid (wr = w.drewN q)) (fun _ i _=>n - (intOf i).toNat)
 case atStart=>exact ⟨0,Nat.zero_le _,rfl,0,Lib.hid rfl⟩
 case round =>
  obtain ⟨k,hk,rfl,q,hq⟩:=hrel;have hB : Below w.heap.size w wr:=hq.out ▸ bDrewN (Below.refl _ _) q;by_cases hlt : k < n
  ·
   obtain ⟨b1,o1,rfl,hb1,hc1⟩:=ha.2 Om;obtain ⟨b2,o2,rfl,hb2,hc2⟩:=hb.2 Om;obtain ⟨B1,m1,d1,hk1,hr1,_,_⟩:=hc1 k hlt;obtain ⟨B2,m2,d2,hk2,hr2,_,_⟩:=hc2 k hlt;have hj1:=(hB.cell (p:=⟨b1,o1 + k,none⟩) hb1).trans hk1;have hj2:=(hB.cell (p:=⟨b2,o2 + k,none⟩) hb2).trans hk2;have hmb : m1 <= 1099511627776:=by have:=hrows k hlt;rw [hr1.len] at this;exact this
   clear hc1 hc2 hk1 hk2;generalize ll[k]?.getD [] = lk at *;have cs:=fun W (h : Below wr.heap.size wr W)=>sameIntsQ_any W B1 B2 m1 m2 d1 d2 lk ((hr1.below hB).below h) ((hr2.below hB).below h) hmb
   clear hr1 hr2;go_wp2
   go_quiet ((go_at_call 24;exact Calls.quiet_of (cs _ bL)))
   go_wp2;go_roundw
   case rel=>exact ⟨k + 1,Om,by go_num,_,Lib.hid (by rw [hq.out,drewN_add])⟩
   case measure=>simp [intOf];omega
  ·
   go_wp2;go_ret;exact ⟨rfl,_,hq.out⟩
theorem pSameItemsQ_any (w : World) (A B : OA) (n m c d : Nat) (its : List It) (ha : ItsR w A n c its) (hb : ItsR w B m d its) :
  Calls Tryz.prog 48 #[.slice A n c,.slice B m d] w fun e w'=>e = .returned (.bool true) /\ ∃ q,w' = w.drewN q:=by
 have Hl:=Lib.hid ha.1.len;have Hs:=Lib.hid ha.2.2.2;have hn:=ha.2.1;obtain rfl : n = m:=ha.1.len.symm.trans hb.1.len;go_enter Tryz.func48,Tryz.ntmps48;go_wp2
 go_loopw [5,13] (fun _ i wr=>∃ k,k <= n /\ i = .int .i64 (k : Nat) /\ ∃ q,Hid (wr = w.drewN q)) (fun _ i _=>n - (intOf i).toNat)
 case atStart=>exact ⟨0,Nat.zero_le _,rfl,0,Lib.hid rfl⟩
 case round =>
  obtain ⟨k,hk,rfl,q,hq⟩:=hrel;have hB : Below w.heap.size w wr:=hq.out ▸ bDrewN (Below.refl _ _) q;by_cases hlt : k < n
  ·
   obtain ⟨b1,o1,rfl,hb1,hc1⟩:=ha.1.2 Om;obtain ⟨b2,o2,rfl,hb2,hc2⟩:=hb.1.2 Om;obtain ⟨NA,nn,nc,MA,mn,mc,c0,c1,c2,hN,hM,_,_⟩:=hc1 k hlt;obtain ⟨NB,nn',nc',MB,mn',mc',d0,d1,d2,hN',hM',_,_⟩:=hc2 k hlt;have hsm:=Hs.out _ (getD_mem zIt its k (by rw [Hl.out];exact hlt));have hnn : nn <= 1099511627776:=by rw [<- hN.len];exact hsm.1
   have hmn : mn <= 1099511627776:=by rw [<- hM.len];exact hsm.2.1
   clear hc1 hc2 hsm;generalize its[k]?.getD zIt = it at *;have c0':=(hB.cell hb1).trans c0;have c1':=(hB.cell hb1).trans c1;have c2':=(hB.cell hb1).trans c2;have d0':=(hB.cell hb2).trans d0;have d1':=(hB.cell hb2).trans d1;have d2':=(hB.cell hb2).trans d2;have cN:=fun W (h : Below wr.heap.size wr W)=>pSameNamesQ_any W NA NB nn nn' nc nc' it.1 ((hN.below hB).below h) ((hN'.below hB).below h) hnn
   have cM:=fun W (h : Below wr.heap.size wr W)=>sameIntsQ_any W MA MB mn mn' mc mc' it.2.1 ((hM.below hB).below h) ((hM'.below hB).below h) hmn
   clear hN hM hN' hM' c0 c1 c2 d0 d1 d2;go_wp2
   go_quiet (first | (go_at_call 96;exact Calls.quiet_of (cN _ bL)) | (go_at_call 24;exact Calls.quiet_of (cM _ bL)))
   go_wp2;go_roundw
   case rel=>exact ⟨k + 1,Om,by go_num,_,Lib.hid (by rw [hq.out,drewN_add])⟩
   case measure=>simp [intOf];omega
  ·
   go_wp2;go_ret;exact ⟨rfl,_,hq.out⟩
theorem pSame_any (w : World) (I GA KA I' GA' KA' : OA) (n2 c2 gn gc kn kc n2' c2' gn' gc' kn' kc' : Nat) (its : List It) (gg kk : List (List Int)) (s1 s2 s3 : Int) (hi : ItsR w I n2 c2 its) (hm : RdMk w GA gn KA kn gg kk) (hi' : ItsR w I' n2' c2' its) (hm' : RdMk w GA' gn' KA' kn' gg kk) :
  Calls Tryz.prog 14 #[.agg #[.slice I n2 c2,.slice GA gn gc,.slice KA kn kc,.int .i64 s1,.int .i64 s2,.int .i64 s3],.agg #[.slice I' n2' c2',.slice GA' gn' gc',.slice KA' kn' kc',.int .i64 s1,.int .i64 s2,.int .i64 s3]] w fun e w'=>e = .returned (.bool true) /\ ∃ x,w' = ext w x:=by
 have c1:=fun W h=>pSameItemsQ_any W I I' n2 n2' c2 c2' its (hi.below h) (hi'.below h)
 have cg:=fun W h=>sameListsQ_any W GA GA' gn gn' gc gc' gg (hm.below h).1 (hm'.below h).1 hm.2.2.1 hm.2.2.2.2.1
 have ck:=fun W h=>sameListsQ_any W KA KA' kn kn' kc kc' kk (hm.below h).2.1 (hm'.below h).2.1 hm.2.2.2.1 hm.2.2.2.2.2
 clear hi hm hi' hm';go_enter Tryz.func14,Tryz.ntmps14;go_wp2_with (first | (go_at_call 48;((with_reducible refine (c1 _ bL).mono ?_);rintro e w' ⟨rfl,q1,rfl⟩)) | (go_at_call 49;((with_reducible refine (cg _ bL).mono ?_);rintro e w' ⟨rfl,q2,rfl⟩)) | (go_at_call 49;((with_reducible refine (ck _ bL).mono ?_);rintro e w' ⟨rfl,q3,rfl⟩)))
 go_ret;exact ⟨rfl,ext_ex bL⟩
def RetAnyB (w : World) (e : Ending) (w' : World) : Prop:=(∃ b,e = .returned (.bool b)) /\ w = w'
theorem big_any (w : World) (A B : OA) (n m c d : Nat) (hn : n <= 9223372036854775807) (hm : m <= 9223372036854775807) :
  Calls Tryz.prog 5 #[.slice A n c,.slice B m d] w (RetAnyB w):=by
 by_cases h1 : (1048576 : Int) < n
 ·
  go_enter Tryz.func5,Tryz.ntmps5;go_wp2;go_ret;exact ⟨⟨_,rfl⟩,rfl⟩
 ·
  go_enter Tryz.func5,Tryz.ntmps5;go_wp2;go_ret;exact ⟨⟨_,rfl⟩,rfl⟩
def RetRr (w : World) (o : Option PR) (e : Ending) (w' : World) : Prop:=∃ I n c GA gn gc KA kn kc,e = .returned (.tuple #[.agg #[.slice I n c,.slice GA gn gc,.slice KA kn kc,.int .i64 (o.getD zPR).2.2.1.1,.int .i64 (o.getD zPR).2.2.1.2.1,.int .i64 (o.getD zPR).2.2.1.2.2],.int .i64 (o.getD zPR).2.2.2.1,.int .i64 (o.getD zPR).2.2.2.2,.bool o.isSome]) /\ (∃ x,w' = ext w x) /\ ItsR w' I n c (o.getD zPR).1 /\ RdMk w' GA gn KA kn (o.getD zPR).2.1.1 (o.getD zPR).2.1.2
theorem rr_of {w w' : World} {e : Ending} {els : List El} {lims : List Int} {q0 q1 q2 q3 : Int} {s : ByteArray} {o : Option PR} (ho : rdP els lims q0 q1 q2 q3 s = o) (h : RetRd w o e w') : RetRr w o e w':=by
 obtain ⟨I,n,c,GA,gn,gc,KA,kn,kc,x,R,he,rfl,hF,hP⟩:=h;have hs:=rdSm ho;unfold RetRr;generalize o.getD zPR = v at *;obtain ⟨its,⟨gg,kk⟩,⟨s1,s2,s3⟩,sk,fa⟩:=v;refine ⟨I,n,c,GA,gn,gc,KA,kn,kc,he,⟨x,rfl⟩,⟨hP.1.rd hF,by have h1:=hP.1.1;have h2:=hs.len;simp only at h1 h2;omega,hP.1.cap hF,hs.small⟩,RdMk.of_len (hP.2.1.rd hF) (hP.2.2.rd hF) (by have h1:=hP.2.1.1;have h2:=hs.gl;simp only at h1 h2;omega) (by have h1:=hP.2.2.1;have h2:=hs.kl;simp only at h1 h2;omega) hs.rows⟩
theorem bt {w W W' : World} (B : Below w.heap.size w W) (h : Below W.heap.size W W') : Below w.heap.size w W':=B.trans (h.mono B.size)
theorem blkl {w : World} {g ty : Nat} {x0 x1 x2 x3 x4 x5 : Value} (h : w.heap[g]? = some (.cells #[x0,x1,x2,x3,x4,x5] ty (0,0))) : w.cell? ⟨g,0,none⟩ = some x0 /\ w.cell? ⟨g,1,none⟩ = some x1 /\ w.cell? ⟨g,2,none⟩ = some x2 /\ w.cell? ⟨g,3,none⟩ = some x3 /\ w.cell? ⟨g,4,none⟩ = some x4 /\ w.cell? ⟨g,5,none⟩ = some x5 /\ g < w.heap.size:=by
 obtain ⟨⟨a0,a1,a2,a3,a4,a5⟩,_⟩:=blk6 h;exact ⟨a0,a1,a2,a3,a4,a5,(Array.getElem?_eq_some_iff.1 h).1⟩
theorem implRd_any (w : World) (A B : OA) (n m c d : Nat) (els : List El) (lims : List Int) (q0 q1 q2 q3 : Int) (hc : CodeR w A n B m els lims) (s : ByteArray) (hs : s.size <= 1048576) (hM : Mxl w) (hTab : Tab w) (hSg : Sgn w) (o : Option PR) (ho : rdP els lims q0 q1 q2 q3 s = o) :
  Calls Tryz.prog 9 #[.agg #[.slice A n c,.slice B m d,.int .i64 q0,.int .i64 q1,.int .i64 q2,.int .i64 q3],.string s] w (RetRr w o) :=
 (implReadProtocol_any w A B n m c d els lims q0 q1 q2 q3 hc s hs hM hTab hSg).mono fun e w' h=>rr_of ho (ho ▸ h)
theorem specRd_any (w : World) (A B : OA) (n m c d : Nat) (els : List El) (lims : List Int) (q0 q1 q2 q3 : Int) (hc : CodeR w A n B m els lims) (s : ByteArray) (hs : s.size <= 1048576) (o : Option PR) (ho : rdP els lims q0 q1 q2 q3 s = o) :
  Calls Tryz.prog 16 #[.agg #[.slice A n c,.slice B m d,.int .i64 q0,.int .i64 q1,.int .i64 q2,.int .i64 q3],.string s] w (RetRr w o) :=
 (specReadProtocol_any w A B n m c d els lims q0 q1 q2 q3 hc s hs).mono fun e w' h=>rr_of ho (ho ▸ h)
theorem ren_facts {els : List El} {lims : List Int} {q0 q1 q2 q3 u : Int} {s so : ByteArray} {B : Bool} (hB : ((rdP els lims q0 q1 q2 q3 s).isSome && inB u 1 999) = B) (hso : renV els q0 q1 q2 q3 u (rdP els lims q0 q1 q2 q3 s) = so) (h : B = true) :
  difB s so = true /\ (difO s so = [] ∨ difO s so = [1]) /\ (rdP els lims q0 q1 q2 q3 so).isSome = true /\ holdsK els lims q0 q1 q2 q3 so = true /\ so.size <= 4000:=by
 rw [<- hB,Bool.and_eq_true] at h;obtain ⟨v,hv⟩:=Option.isSome_iff_exists.1 h.1;obtain ⟨t,e1,e2,e3,e4,e5,e6⟩:=ren_all hv h.2;rw [hv] at hso;obtain rfl : so = t:=hso.symm.trans e1;exact ⟨e2,e3,by rw [e4];rfl,e5,e6⟩
theorem rec_facts {els : List El} {lims : List Int} {q0 q1 q2 q3 k j m : Int} {s so : ByteArray} {B : Bool} (hB : recK (rdP els lims q0 q1 q2 q3 s) k j m = B) (hso : recV els q0 q1 q2 q3 (rdP els lims q0 q1 q2 q3 s) k j m = so) (h : B = true) :
  ∃ (k' j' : Nat) (v : PR),k = k' /\ j = j' /\ rdP els lims q0 q1 q2 q3 so = some v /\ k' < v.1.length /\ j' < (v.1[k']?.getD zIt).2.1.length /\ (v.1[k']?.getD zIt).2.1.getD j' 0 = m /\ so.size <= 4000:=by
 subst hB
 cases hv : rdP els lims q0 q1 q2 q3 s with
 | none=>rw [hv] at h;cases h
 | some p =>
  rw [hv] at h hso;obtain ⟨t,k',j',e1,rfl,rfl,h1,h2,e4,e5⟩:=rec_all hv h;obtain rfl : so = t:=hso.symm.trans e1;have hit:=(pro_of (rd_good hv)).1 _ (getD_mem zIt p.1 k' h1);simp only [itemB,Bool.and_eq_true,decide_eq_true_eq] at hit;have hl:=hit.2.2.1;have ea:=setIts_at j' m h1;refine ⟨k',j',_,rfl,rfl,e4,?_,?_,?_,e5⟩
  ·
   simp only [setIts_len];exact h1
  ·
   simp only [ea,setIt,List.length_set];omega
  ·
   simp only [ea,setIt];rw [List.getD_eq_getElem?_getD,List.getElem?_set_self Om];rfl
theorem difO_len {a b : ByteArray} : (difO a b).length <= 1099511627776:=by
 unfold difO
 split
 ·
  rename_i h
  have h1:=difTo_len (spls 10 a) (spls 10 b) (max (spls 10 a).length (spls 10 b).length);have h2:=(spls_bd 10 a);have h3:=(spls_bd 10 b);unfold difV;omega
 ·
  simp
theorem dif_facts {a b : ByteArray} : (difB a b = true -> difB a a = true) /\ (difB a a = true -> difO a a = []) /\ (difB a b = true -> (difO a b = [] ↔ a = b)) :=
 ⟨fun h=>by simp only [difB,Bool.and_eq_true] at h ⊢;exact ⟨h.1,h.1⟩,fun h=>(dif_eq h).2 rfl,fun h=>dif_eq h⟩
theorem law_Recalled (w : World) (A0 : OA) (n0 c0 : Nat) (l0 : List Int) (ha0 : RdY w A0 n0 l0) (hm0 : n0 <= 9223372036854775807) (A1 : OA) (n1 c1 : Nat) (l1 : List Int) (ha1 : RdY w A1 n1 l1) (hm1 : n1 <= 9223372036854775807) (hTab : Tab w) (hSg : Sgn w) (hMx : Mxl w) :
  Calls Tryz.prog 4 #[.slice A0 n0 c0,.slice A1 n1 c1] w fun e w'=>e = .returned (.bool true) /\ Below w.heap.size w w':=by
 go_enter Tryz.func4,Tryz.ntmps4;go_wp2_with fail
 refine (big_any _ _ _ _ _ _ _ hm0 hm1).mono ?_;rintro e w1 ⟨⟨b,rfl⟩,rfl⟩
 cases b
 case true =>
  go_wp2;go_ret;exact ⟨rfl,bL⟩
 go_wp2_with fail
 refine (drawRenumbered_any _ _ _ _ _ ha0 hm0).mono ?_;rintro e wx ⟨EA,en,ec,LA,ln,lc,q0,q1,q2,q3,s,u,els,lims,rfl,hs5,BW,hc⟩;have ha:=ha1.below BW;have hT:=hTab.below BW;have hS:=hSg.below BW;have hM:=hMx.below BW;clear ha0 ha1 hTab hSg hMx;have hsz : s.size <= 1048576:=Om;obtain ⟨RB,hRB⟩ : ∃ RB,((rdP els lims q0 q1 q2 q3 s).isSome && inB u 1 999) = RB:=⟨_,rfl⟩;obtain ⟨so,hso⟩ : ∃ so,renV els q0 q1 q2 q3 u (rdP els lims q0 q1 q2 q3 s) = so:=⟨_,rfl⟩;have HG:=Lib.hid (ren_facts hRB hso);have ci:=fun W (h : Below wx.heap.size wx W)=>implRenumbered_any W EA LA en ln ec lc els lims q0 q1 q2 q3 (hc.below h) s u hsz (hM.below h) (hT.below h) (hS.below h)
 have cs:=fun W (h : Below wx.heap.size wx W)=>specRenumbered_any W EA LA en ln ec lc els lims q0 q1 q2 q3 (hc.below h) s u hsz
 rw [hRB,hso] at ci cs;clear hRB hso;have Bx:=Below.refl wx.heap.size wx;go_wp2_with fail
 have hb:=bAlloc (Below.refl wx.heap.size wx) (.cells #[.slice EA en ec,.slice LA ln lc,.int .i64 q0,.int .i64 q1,.int .i64 q2,.int .i64 q3] 27);have Hx:=heap_alloc_new wx (.cells #[.slice EA en ec,.slice LA ln lc,.int .i64 q0,.int .i64 q1,.int .i64 q2,.int .i64 q3] 27)
 replace Bx:=bt Bx hb
 clear hb;generalize (wx.alloc (.cells #[.slice EA en ec,.slice LA ln lc,.int .i64 q0,.int .i64 q1,.int .i64 q2,.int .i64 q3] 27)) = W1 at *;refine (ci W1 Bx).mono ?_;rintro e W2 ⟨x1,rfl,hw⟩;have hb : Below W1.heap.size W1 W2:=by rw [hw];exact ext_below _ _
 clear hw
 replace Bx:=bt Bx hb
 replace Hx:=heap_old Hx hb
 clear hb;obtain ⟨kx0,kx1,kx2,kx3,kx4,kx5,kx6⟩:=blkl Hx;go_wp2_with fail
 refine (cs W2 Bx).mono ?_;rintro e W3 ⟨x2,rfl,hw⟩;have hb : Below W2.heap.size W2 W3:=by rw [hw];exact ext_below _ _
 clear hw;clear kx0 kx1 kx2 kx3 kx4 kx5 kx6
 replace Bx:=bt Bx hb
 replace Hx:=heap_old Hx hb
 clear hb;obtain ⟨kx0,kx1,kx2,kx3,kx4,kx5,kx6⟩:=blkl Hx;clear ci cs;go_upto_if 88 with fail
 go_cut [] (fun wq=>Below W3.heap.size W3 wq)
 case first =>
  exact Nonempty.elim (α:=type_of% ?k1) (letI i : Nonempty (type_of% ?k1):=⟨by
   clear ha
   cases RB
   ·
    go_wp2;go_meet;exact Below.refl _ _
   ·
    obtain ⟨h1,h2,h3,h4,h5⟩:=HG.out rfl;have hoz : so.size <= 1048576:=Om;have cd1:=fun W (h : Below wx.heap.size wx W)=>implDifferLines_any s so W hsz hoz (hM.below h)
    have cd2:=fun W (h : Below wx.heap.size wx W)=>specDifferLines_any s so W hsz hoz
    have ch:=fun W (h : Below wx.heap.size wx W)=>implProtocolHolds_any W EA LA en ln ec lc els lims q0 q1 q2 q3 (hc.below h) so hoz (hM.below h) (hT.below h) (hS.below h)
    rw [h3,h4] at ch;unfold RetIB at cd1 cd2;rw [h1] at cd1 cd2
    rcases h2 with h2 | h2
    ·
     rw [h2] at cd1 cd2;clear h1 h2 h3 h4 h5 HG;have Bz:=Below.refl W3.heap.size W3;go_wp2_with fail
     refine (cd1 W3 Bx).mono ?_;rintro e W4 ⟨D1,m1,d1,x3,rfl,hw,o1⟩;have hb : Below W3.heap.size W3 W4:=by rw [hw];exact ext_below _ _
     rw [<- hw] at o1;clear hw
     replace Bx:=bt Bx hb
     replace Bz:=bt Bz hb
     replace Hx:=heap_old Hx hb
     clear hb;obtain ⟨kx0,kx1,kx2,kx3,kx4,kx5,kx6⟩:=blkl Hx;have Bd:=Below.refl W4.heap.size W4;go_wp2_with fail
     refine (cd2 W4 Bx).mono ?_;rintro e W5 ⟨D2,m2,d2,x4,rfl,hw,o2⟩;have hb : Below W4.heap.size W4 W5:=by rw [hw];exact ext_below _ _
     rw [<- hw] at o2;clear hw;clear kx0 kx1 kx2 kx3 kx4 kx5 kx6
     replace Bx:=bt Bx hb
     replace Bz:=bt Bz hb
     replace Bd:=bt Bd hb
     replace Hx:=heap_old Hx hb
     clear hb;obtain ⟨kx0,kx1,kx2,kx3,kx4,kx5,kx6⟩:=blkl Hx;have Be:=Below.refl W5.heap.size W5;obtain rfl : m2 = 0:=o2.len.symm;obtain rfl : m1 = 0:=o1.len.symm;go_wp2_with fail
     refine (ch W5 Bx).mono ?_;rintro e W6 ⟨rfl,x5,hw⟩;have hb : Below W5.heap.size W5 W6:=by rw [hw];exact ext_below _ _
     clear hw;clear kx0 kx1 kx2 kx3 kx4 kx5 kx6
     replace Bx:=bt Bx hb
     replace Bz:=bt Bz hb
     replace Bd:=bt Bd hb
     replace Be:=bt Be hb
     replace Hx:=heap_old Hx hb
     clear hb;obtain ⟨kx0,kx1,kx2,kx3,kx4,kx5,kx6⟩:=blkl Hx;go_wp2_with fail
     have r1:=o1.rd.below Bd;have r2:=o2.rd.below Be;have c9:=sameIntsQ_any W6 D1 D2 0 0 d1 d2 [] r1 r2 Om;clear r1 r2;refine (c9).mono ?_;rintro e W7 ⟨rfl,x6,hw⟩;have hb : Below W6.heap.size W6 W7:=by rw [hw];exact bDrewN (Below.refl _ _) _
     clear hw;clear kx0 kx1 kx2 kx3 kx4 kx5 kx6
     replace Bx:=bt Bx hb
     replace Bz:=bt Bz hb
     replace Bd:=bt Bd hb
     replace Be:=bt Be hb
     replace Hx:=heap_old Hx hb
     clear hb;obtain ⟨kx0,kx1,kx2,kx3,kx4,kx5,kx6⟩:=blkl Hx;go_wp2;go_meet;exact Bz
    ·
     rw [h2] at cd1 cd2;clear h1 h2 h3 h4 h5 HG;have Bz:=Below.refl W3.heap.size W3;go_wp2_with fail
     refine (cd1 W3 Bx).mono ?_;rintro e W4 ⟨D1,m1,d1,x3,rfl,hw,o1⟩;have hb : Below W3.heap.size W3 W4:=by rw [hw];exact ext_below _ _
     rw [<- hw] at o1;clear hw
     replace Bx:=bt Bx hb
     replace Bz:=bt Bz hb
     replace Hx:=heap_old Hx hb
     clear hb;obtain ⟨kx0,kx1,kx2,kx3,kx4,kx5,kx6⟩:=blkl Hx;have Bd:=Below.refl W4.heap.size W4;go_wp2_with fail
     refine (cd2 W4 Bx).mono ?_;rintro e W5 ⟨D2,m2,d2,x4,rfl,hw,o2⟩;have hb : Below W4.heap.size W4 W5:=by rw [hw];exact ext_below _ _
     rw [<- hw] at o2;clear hw;clear kx0 kx1 kx2 kx3 kx4 kx5 kx6
     replace Bx:=bt Bx hb
     replace Bz:=bt Bz hb
     replace Bd:=bt Bd hb
     replace Hx:=heap_old Hx hb
     clear hb;obtain ⟨kx0,kx1,kx2,kx3,kx4,kx5,kx6⟩:=blkl Hx;have Be:=Below.refl W5.heap.size W5;obtain rfl : m2 = 1:=o2.len.symm;obtain rfl : m1 = 1:=o1.len.symm;go_wp2_with fail
     refine (ch W5 Bx).mono ?_;rintro e W6 ⟨rfl,x5,hw⟩;have hb : Below W5.heap.size W5 W6:=by rw [hw];exact ext_below _ _
     clear hw;clear kx0 kx1 kx2 kx3 kx4 kx5 kx6
     replace Bx:=bt Bx hb
     replace Bz:=bt Bz hb
     replace Bd:=bt Bd hb
     replace Be:=bt Be hb
     replace Hx:=heap_old Hx hb
     clear hb;obtain ⟨kx0,kx1,kx2,kx3,kx4,kx5,kx6⟩:=blkl Hx;go_wp2_with fail
     have r1:=o1.rd.below Bd;have r2:=o2.rd.below Be;have c9:=sameIntsQ_any W6 D1 D2 1 1 d1 d2 [1] r1 r2 Om;clear r1 r2;obtain ⟨g2,rfl,hg2,hg3⟩:=o2.form_ Om;have hk2:=o2.cell_ 0 Om;refine (c9).mono ?_;rintro e W7 ⟨rfl,x6,hw⟩;have hb : Below W6.heap.size W6 W7:=by rw [hw];exact bDrewN (Below.refl _ _) _
     clear hw;clear kx0 kx1 kx2 kx3 kx4 kx5 kx6
     replace Bx:=bt Bx hb
     replace Bz:=bt Bz hb
     replace Bd:=bt Bd hb
     replace Be:=bt Be hb
     replace Hx:=heap_old Hx hb
     clear hb;obtain ⟨kx0,kx1,kx2,kx3,kx4,kx5,kx6⟩:=blkl Hx;have hk3:=(Be.cell (p:=⟨g2,0,none⟩) hg3).trans hk2;have hg4:=Nat.lt_of_lt_of_le hg3 Be.size;go_wp2;go_meet;exact Bz
   ⟩;by exact inferInstanceAs (Nonempty _)) (fun h=>h)
 case rest =>
  exact Nonempty.elim (α:=type_of% ?k4) (letI i : Nonempty (type_of% ?k4):=⟨by
   have hB:=Bx.trans (hcut.mono Bx.size);have BW:=BW.trans (hB.mono BW.size);have ha:=ha.below hB;have hT:=hT.below hB;have hS:=hS.below hB;have hM:=hM.below hB;clear hcut hB Bx HG hc;go_wp2_with fail
   refine (drawRecallProtocol_any _ _ _ _ _ ha hm1).mono ?_;rintro e wy ⟨EA2,en2,ec2,LA2,ln2,lc2,q02,q12,q22,q32,s2,u2,v2,z2,els2,lims2,rfl,hs5,by1,hc⟩;have BW:=BW.trans (by1.mono BW.size);have ha:=ha.below by1;have hT:=hT.below by1;have hS:=hS.below by1;have hM:=hM.below by1;clear by1;have hsz : s2.size <= 1048576:=Om;obtain ⟨RB2,hRB⟩ : ∃ RB,recK (rdP els2 lims2 q02 q12 q22 q32 s2) u2 v2 z2 = RB:=⟨_,rfl⟩;obtain ⟨so2,hso⟩ : ∃ so,recV els2 q02 q12 q22 q32 (rdP els2 lims2 q02 q12 q22 q32 s2) u2 v2 z2 = so:=⟨_,rfl⟩;have HG:=Lib.hid (rec_facts hRB hso);have ci:=fun W (h : Below wy.heap.size wy W)=>implRecallProtocol_any W EA2 LA2 en2 ln2 ec2 lc2 els2 lims2 q02 q12 q22 q32 (hc.below h) s2 u2 v2 z2 hsz (hM.below h) (hT.below h) (hS.below h)
   have cs:=fun W (h : Below wy.heap.size wy W)=>specRecallProtocol_any W EA2 LA2 en2 ln2 ec2 lc2 els2 lims2 q02 q12 q22 q32 (hc.below h) s2 u2 v2 z2 hsz
   rw [hRB,hso] at ci cs;clear hRB hso;have By:=Below.refl wy.heap.size wy;go_wp2_with fail
   have hb:=bAlloc (Below.refl wy.heap.size wy) (.cells #[.slice EA2 en2 ec2,.slice LA2 ln2 lc2,.int .i64 q02,.int .i64 q12,.int .i64 q22,.int .i64 q32] 27);have Hy:=heap_alloc_new wy (.cells #[.slice EA2 en2 ec2,.slice LA2 ln2 lc2,.int .i64 q02,.int .i64 q12,.int .i64 q22,.int .i64 q32] 27)
   replace By:=bt By hb
   clear hb;generalize (wy.alloc (.cells #[.slice EA2 en2 ec2,.slice LA2 ln2 lc2,.int .i64 q02,.int .i64 q12,.int .i64 q22,.int .i64 q32] 27)) = W41 at *;refine (ci W41 By).mono ?_;rintro e W42 ⟨x1,rfl,hw⟩;have hb : Below W41.heap.size W41 W42:=by rw [hw];exact ext_below _ _
   clear hw
   replace By:=bt By hb
   replace Hy:=heap_old Hy hb
   clear hb;obtain ⟨ky0,ky1,ky2,ky3,ky4,ky5,ky6⟩:=blkl Hy;go_wp2_with fail
   refine (cs W42 By).mono ?_;rintro e W43 ⟨x2,rfl,hw⟩;have hb : Below W42.heap.size W42 W43:=by rw [hw];exact ext_below _ _
   clear hw;clear ky0 ky1 ky2 ky3 ky4 ky5 ky6
   replace By:=bt By hb
   replace Hy:=heap_old Hy hb
   clear hb;obtain ⟨ky0,ky1,ky2,ky3,ky4,ky5,ky6⟩:=blkl Hy;clear ci cs;go_upto_if 177 with fail
   go_cut [] (fun wq=>Below W43.heap.size W43 wq)
   case first =>
    exact Nonempty.elim (α:=type_of% ?k2) (letI i : Nonempty (type_of% ?k2):=⟨by
     clear ha BW
     cases RB2
     ·
      go_wp2;go_meet;exact Below.refl _ _
     obtain ⟨k',j',v,rfl,rfl,hrd,hkl,hjl,hget,h5⟩:=HG.out rfl;have hoz : so2.size <= 1048576:=Om;have cr:=fun W (h : Below wy.heap.size wy W)=>implRd_any W EA2 LA2 en2 ln2 ec2 lc2 els2 lims2 q02 q12 q22 q32 (hc.below h) so2 hoz (hM.below h) (hT.below h) (hS.below h) _ hrd
     have cr2:=fun W (h : Below wy.heap.size wy W)=>specRd_any W EA2 LA2 en2 ln2 ec2 lc2 els2 lims2 q02 q12 q22 q32 (hc.below h) so2 hoz _ hrd
     unfold RetRr at cr cr2;simp only [Option.getD_some,Option.isSome_some] at cr cr2;obtain ⟨its,⟨gg,kk⟩,⟨s1,s2',s3⟩,sk,fa⟩:=v;simp only at cr cr2 hkl hjl hget;clear hrd HG;have Bz:=Below.refl W43.heap.size W43;go_wp2_with fail
     refine (cr W43 By).mono ?_;rintro e W61 ⟨I7,n7,c7,GA7,gn7,gc7,KA7,kn7,kc7,rfl,⟨x7,hw⟩,i7,m7⟩;have hb : Below W43.heap.size W43 W61:=by rw [hw];exact ext_below _ _
     clear hw
     replace By:=bt By hb
     replace Bz:=bt Bz hb
     replace Hy:=heap_old Hy hb
     clear hb;obtain ⟨ky0,ky1,ky2,ky3,ky4,ky5,ky6⟩:=blkl Hy;have Bq:=Below.refl W61.heap.size W61;go_wp2_with fail
     clear ky0 ky1 ky2 ky3 ky4 ky5 ky6;have hb:=bAlloc (Below.refl W61.heap.size W61) (.cells #[.slice I7 n7 c7,.slice GA7 gn7 gc7,.slice KA7 kn7 kc7,.int .i64 s1,.int .i64 s2',.int .i64 s3] 35);have Hq:=heap_alloc_new W61 (.cells #[.slice I7 n7 c7,.slice GA7 gn7 gc7,.slice KA7 kn7 kc7,.int .i64 s1,.int .i64 s2',.int .i64 s3] 35)
     replace By:=bt By hb
     replace Bz:=bt Bz hb
     replace Bq:=bt Bq hb
     replace Hy:=heap_old Hy hb
     clear hb;generalize (W61.alloc (.cells #[.slice I7 n7 c7,.slice GA7 gn7 gc7,.slice KA7 kn7 kc7,.int .i64 s1,.int .i64 s2',.int .i64 s3] 35)) = W62 at *;refine (cr2 W62 By).mono ?_;rintro e W63 ⟨I8,n8,c8,GA8,gn8,gc8,KA8,kn8,kc8,rfl,⟨x8,hw⟩,i8,m8⟩;have hb : Below W62.heap.size W62 W63:=by rw [hw];exact ext_below _ _
     clear hw
     replace By:=bt By hb
     replace Bz:=bt Bz hb
     replace Bq:=bt Bq hb
     replace Hy:=heap_old Hy hb
     replace Hq:=heap_old Hq hb
     clear hb;obtain ⟨ky0,ky1,ky2,ky3,ky4,ky5,ky6⟩:=blkl Hy;obtain ⟨kq0,kq1,kq2,kq3,kq4,kq5,kq6⟩:=blkl Hq;have Bp:=Below.refl W63.heap.size W63;go_wp2_with fail
     clear ky0 ky1 ky2 ky3 ky4 ky5 ky6 kq0 kq1 kq2 kq3 kq4 kq5 kq6;have hb:=bAlloc (Below.refl W63.heap.size W63) (.cells #[.slice I8 n8 c8,.slice GA8 gn8 gc8,.slice KA8 kn8 kc8,.int .i64 s1,.int .i64 s2',.int .i64 s3] 35);have Hp:=heap_alloc_new W63 (.cells #[.slice I8 n8 c8,.slice GA8 gn8 gc8,.slice KA8 kn8 kc8,.int .i64 s1,.int .i64 s2',.int .i64 s3] 35)
     replace By:=bt By hb
     replace Bz:=bt Bz hb
     replace Bq:=bt Bq hb
     replace Bp:=bt Bp hb
     replace Hy:=heap_old Hy hb
     replace Hq:=heap_old Hq hb
     clear hb;generalize (W63.alloc (.cells #[.slice I8 n8 c8,.slice GA8 gn8 gc8,.slice KA8 kn8 kc8,.int .i64 s1,.int .i64 s2',.int .i64 s3] 35)) = W64 at *;refine (pSame_any W64 I7 GA7 KA7 I8 GA8 KA8 n7 c7 gn7 gc7 kn7 kc7 n8 c8 gn8 gc8 kn8 kc8 its gg kk s1 s2' s3 (i7.below Bq) (m7.below Bq) (i8.below Bp) (m8.below Bp)).mono ?_;rintro e W65 ⟨rfl,x13,hw⟩;have hb : Below W64.heap.size W64 W65:=by rw [hw];exact ext_below _ _
     clear hw
     replace By:=bt By hb
     replace Bz:=bt Bz hb
     replace Bq:=bt Bq hb
     replace Bp:=bt Bp hb
     replace Hy:=heap_old Hy hb
     replace Hq:=heap_old Hq hb
     replace Hp:=heap_old Hp hb
     clear hb;obtain ⟨ky0,ky1,ky2,ky3,ky4,ky5,ky6⟩:=blkl Hy;obtain ⟨kq0,kq1,kq2,kq3,kq4,kq5,kq6⟩:=blkl Hq;obtain ⟨kp0,kp1,kp2,kp3,kp4,kp5,kp6⟩:=blkl Hp;have i9:=i8.below Bp;have hn9 : n8 = its.length:=i9.1.1.symm;obtain ⟨bI,oI,rfl,hbI,hcI⟩:=i9.1.2 Om;obtain ⟨NA,nn,nc,MA,mn,mc,t0,t1,t2,hN,hMk,_,_⟩:=hcI k' Om;have hmn:=hMk.len;obtain ⟨bM,oM,rfl,hbM,hcM⟩:=hMk.open_ Om;have t3:=hcM j' Om;rw [hget] at t3;have hkI : (k' : Int) < n8:=Om;have hjI : (j' : Int) < mn:=Om;clear hcI hcM hN hMk t0 t2 i9 i7 m7 i8 m8 hmn hn9 hget hkl hjl;go_wp2;go_meet;exact Bz
     ⟩;by exact inferInstanceAs (Nonempty _)) (fun h=>h)
   case rest =>
    exact Nonempty.elim (α:=type_of% ?k3) (letI i : Nonempty (type_of% ?k3):=⟨by
     have hB:=By.trans (hcut.mono By.size);have BW:=BW.trans (hB.mono BW.size);have ha:=ha.below hB;have hT:=hT.below hB;have hS:=hS.below hB;have hM:=hM.below hB;clear hcut hB By HG hc;go_wp2_with fail
     refine (drawDifferLines_any _ _ _ _ _ ha hm1).mono ?_;rintro e wz ⟨a3,b3,rfl,⟨hs3,hs4⟩,by1⟩;have BW:=BW.trans (by1.mono BW.size);have ha:=ha.below by1;have hT:=hT.below by1;have hS:=hS.below by1;have hM:=hM.below by1;clear by1;have hz3 : a3.size <= 1048576:=Om;have hz4 : b3.size <= 1048576:=Om;have HD:=Lib.hid (dif_facts (a:=a3) (b:=b3));have hLb:=difO_len (a:=a3) (b:=b3);have cd1:=fun W (h : Below wz.heap.size wz W)=>implDifferLines_any a3 b3 W hz3 hz4 (hM.below h)
     have cd2:=fun W (h : Below wz.heap.size wz W)=>specDifferLines_any a3 b3 W hz3 hz4
     have cd3:=fun W (h : Below wz.heap.size wz W)=>implDifferLines_any a3 a3 W hz3 hz3 (hM.below h)
     unfold RetIB at cd1 cd2 cd3;generalize difB a3 b3 = B at *;generalize difB a3 a3 = F at *;generalize difO a3 b3 = L at *;generalize difO a3 a3 = L3 at *;have Bw:=Below.refl wz.heap.size wz;go_wp2_with fail
     refine (cd1 wz Bw).mono ?_;rintro e W81 ⟨D1,m1,d1,x3,rfl,hw,o1⟩;have hb : Below wz.heap.size wz W81:=by rw [hw];exact ext_below _ _
     rw [<- hw] at o1;clear hw
     replace Bw:=bt Bw hb
     clear hb;have Bd:=Below.refl W81.heap.size W81;go_wp2_with fail
     refine (cd2 W81 Bw).mono ?_;rintro e W82 ⟨D2,m2,d2,x4,rfl,hw,o2⟩;have hb : Below W81.heap.size W81 W82:=by rw [hw];exact ext_below _ _
     rw [<- hw] at o2;clear hw
     replace Bw:=bt Bw hb
     replace Bd:=bt Bd hb
     clear hb;have Be:=Below.refl W82.heap.size W82;go_wp2_with fail
     refine (cd3 W82 Bw).mono ?_;rintro e W83 ⟨D3,m3,d3,x5,rfl,hw,o3⟩;have hb : Below W82.heap.size W82 W83:=by rw [hw];exact ext_below _ _
     rw [<- hw] at o3;clear hw
     replace Bw:=bt Bw hb
     replace Bd:=bt Bd hb
     replace Be:=bt Be hb
     clear hb;have hl2:=o2.len;have hl3:=o3.len;clear o3 cd1 cd2 cd3;go_wp2_with fail
     refine (drawItemLine_any _ _ _ _ _ (ha.below Bw) hm1).mono ?_;rintro e W84 ⟨EA4,en4,ec4,LA4,ln4,lc4,q04,q14,q24,q34,I4,p4,q4,GA4,gn4,gc4,KA4,kn4,kc4,a4,b4,d4,i4,els4,lims4,its4,gg4,kk4,rfl,hW84,hil4,hc4,hi4,hm4⟩
     replace Bw:=bt Bw hW84
     replace Bd:=bt Bd hW84
     replace Be:=bt Be hW84
     clear hW84 hil4;have Bf:=Below.refl W84.heap.size W84;obtain ⟨lo,hlo⟩ : ∃ z,lineO els4 lims4 q04 q14 q24 q34 its4 gg4 kk4 a4 b4 d4 i4 = z:=⟨_,rfl⟩;obtain ⟨lb,hlb⟩ : ∃ z,lineOk els4 lims4 q04 q14 q24 q34 its4 gg4 kk4 a4 b4 d4 i4 = z:=⟨_,rfl⟩;have cl1:=fun W (h : Below W84.heap.size W84 W) (h2 : Below wz.heap.size wz W)=>implItemLine_any W EA4 LA4 en4 ln4 ec4 lc4 els4 lims4 q04 q14 q24 q34 (hc4.below h) I4 p4 q4 its4 (hi4.below h) GA4 KA4 gn4 gc4 kn4 kc4 gg4 kk4 (hm4.below h) a4 b4 d4 i4 (hT.below h2) (hS.below h2)
     have cl2:=fun W (h : Below W84.heap.size W84 W)=>specItemLine_any W EA4 LA4 en4 ln4 ec4 lc4 els4 lims4 q04 q14 q24 q34 (hc4.below h) I4 p4 q4 its4 (hi4.below h) GA4 KA4 gn4 gc4 kn4 kc4 gg4 kk4 (hm4.below h) a4 b4 d4 i4
     rw [hlo,hlb] at cl1 cl2;clear hlo hlb;go_wp2_with fail
     have hb:=bAlloc (Below.refl W84.heap.size W84) (.cells #[.slice EA4 en4 ec4,.slice LA4 ln4 lc4,.int .i64 q04,.int .i64 q14,.int .i64 q24,.int .i64 q34] 27);have Hx4:=heap_alloc_new W84 (.cells #[.slice EA4 en4 ec4,.slice LA4 ln4 lc4,.int .i64 q04,.int .i64 q14,.int .i64 q24,.int .i64 q34] 27)
     replace Bw:=bt Bw hb
     replace Bd:=bt Bd hb
     replace Be:=bt Be hb
     replace Bf:=bt Bf hb
     clear hb;have hb:=bAlloc (Below.refl (W84.alloc (.cells #[.slice EA4 en4 ec4,.slice LA4 ln4 lc4,.int .i64 q04,.int .i64 q14,.int .i64 q24,.int .i64 q34] 27)).heap.size (W84.alloc (.cells #[.slice EA4 en4 ec4,.slice LA4 ln4 lc4,.int .i64 q04,.int .i64 q14,.int .i64 q24,.int .i64 q34] 27))) (.cells #[.slice I4 p4 q4,.slice GA4 gn4 gc4,.slice KA4 kn4 kc4,.int .i64 a4,.int .i64 b4,.int .i64 d4] 35);have Hp4:=heap_alloc_new (W84.alloc (.cells #[.slice EA4 en4 ec4,.slice LA4 ln4 lc4,.int .i64 q04,.int .i64 q14,.int .i64 q24,.int .i64 q34] 27)) (.cells #[.slice I4 p4 q4,.slice GA4 gn4 gc4,.slice KA4 kn4 kc4,.int .i64 a4,.int .i64 b4,.int .i64 d4] 35);rw [show (W84.alloc (.cells #[.slice EA4 en4 ec4,.slice LA4 ln4 lc4,.int .i64 q04,.int .i64 q14,.int .i64 q24,.int .i64 q34] 27)).heap.size = W84.heap.size + 1 by simp] at Hp4
     replace Bw:=bt Bw hb
     replace Bd:=bt Bd hb
     replace Be:=bt Be hb
     replace Bf:=bt Bf hb
     replace Hx4:=heap_old Hx4 hb
     clear hb;generalize ((W84.alloc (.cells #[.slice EA4 en4 ec4,.slice LA4 ln4 lc4,.int .i64 q04,.int .i64 q14,.int .i64 q24,.int .i64 q34] 27)).alloc (.cells #[.slice I4 p4 q4,.slice GA4 gn4 gc4,.slice KA4 kn4 kc4,.int .i64 a4,.int .i64 b4,.int .i64 d4] 35)) = W85 at *;refine (cl1 W85 Bf Bw).mono ?_;rintro e W86 ⟨x6,rfl,hw⟩;have hb : Below W85.heap.size W85 W86:=by rw [hw];exact ext_below _ _
     clear hw
     replace Bw:=bt Bw hb
     replace Bd:=bt Bd hb
     replace Be:=bt Be hb
     replace Bf:=bt Bf hb
     replace Hx4:=heap_old Hx4 hb
     replace Hp4:=heap_old Hp4 hb
     clear hb;obtain ⟨kx40,kx41,kx42,kx43,kx44,kx45,kx46⟩:=blkl Hx4;obtain ⟨kp40,kp41,kp42,kp43,kp44,kp45,kp46⟩:=blkl Hp4;go_wp2_with fail
     refine (cl2 W86 Bf).mono ?_;rintro e W87 ⟨x7,rfl,hw⟩;have hb : Below W86.heap.size W86 W87:=by rw [hw];exact ext_below _ _
     clear hw;clear kx40 kx41 kx42 kx43 kx44 kx45 kx46 kp40 kp41 kp42 kp43 kp44 kp45 kp46
     replace Bw:=bt Bw hb
     replace Bd:=bt Bd hb
     replace Be:=bt Be hb
     replace Bf:=bt Bf hb
     replace Hx4:=heap_old Hx4 hb
     replace Hp4:=heap_old Hp4 hb
     clear hb;obtain ⟨kx40,kx41,kx42,kx43,kx44,kx45,kx46⟩:=blkl Hx4;obtain ⟨kp40,kp41,kp42,kp43,kp44,kp45,kp46⟩:=blkl Hp4;clear cl1 cl2 hc4 hi4 hm4;clear kx40 kx41 kx42 kx43 kx44 kx45 kx46 kp40 kp41 kp42 kp43 kp44 kp45 kp46;clear Hx4;clear Hp4;clear Bf;go_wp2_with fail
     refine (drawTotalsLine_any _ _ _ _ _ (ha.below Bw) hm1).mono ?_;rintro e W88 ⟨EA5,en5,ec5,LA5,ln5,lc5,q05,q15,q25,q35,I5,p5,q5,GA5,gn5,gc5,KA5,kn5,kc5,a5,b5,d5,i5,els5,lims5,its5,gg5,kk5,rfl,hW88,hil5,hc5,hi5,hm5⟩
     replace Bw:=bt Bw hW88
     replace Bd:=bt Bd hW88
     replace Be:=bt Be hW88
     clear hW88 hil5;have Bg:=Below.refl W88.heap.size W88;obtain ⟨tsx,hto⟩ : ∃ z,totO els5 lims5 q05 q15 q25 q35 its5 gg5 kk5 a5 b5 d5 i5 = z:=⟨_,rfl⟩;obtain ⟨tb,htb⟩ : ∃ z,askB els5 lims5 q05 q15 q25 q35 its5 gg5 kk5 a5 b5 d5 i5 = z:=⟨_,rfl⟩;have cl1:=fun W (h : Below W88.heap.size W88 W) (h2 : Below wz.heap.size wz W)=>implTotalsLine_any W EA5 LA5 en5 ln5 ec5 lc5 els5 lims5 q05 q15 q25 q35 (hc5.below h) I5 p5 q5 its5 (hi5.below h) GA5 KA5 gn5 gc5 kn5 kc5 gg5 kk5 (hm5.below h) a5 b5 d5 i5 (hT.below h2)
     have cl2:=fun W (h : Below W88.heap.size W88 W)=>specTotalsLine_any W EA5 LA5 en5 ln5 ec5 lc5 els5 lims5 q05 q15 q25 q35 (hc5.below h) I5 p5 q5 its5 (hi5.below h) GA5 KA5 gn5 gc5 kn5 kc5 gg5 kk5 (hm5.below h) a5 b5 d5 i5
     rw [hto,htb] at cl1 cl2;clear hto htb;go_wp2_with fail
     have hb:=bAlloc (Below.refl W88.heap.size W88) (.cells #[.slice EA5 en5 ec5,.slice LA5 ln5 lc5,.int .i64 q05,.int .i64 q15,.int .i64 q25,.int .i64 q35] 27);have Hx5:=heap_alloc_new W88 (.cells #[.slice EA5 en5 ec5,.slice LA5 ln5 lc5,.int .i64 q05,.int .i64 q15,.int .i64 q25,.int .i64 q35] 27)
     replace Bw:=bt Bw hb
     replace Bd:=bt Bd hb
     replace Be:=bt Be hb
     replace Bg:=bt Bg hb
     clear hb;have hb:=bAlloc (Below.refl (W88.alloc (.cells #[.slice EA5 en5 ec5,.slice LA5 ln5 lc5,.int .i64 q05,.int .i64 q15,.int .i64 q25,.int .i64 q35] 27)).heap.size (W88.alloc (.cells #[.slice EA5 en5 ec5,.slice LA5 ln5 lc5,.int .i64 q05,.int .i64 q15,.int .i64 q25,.int .i64 q35] 27))) (.cells #[.slice I5 p5 q5,.slice GA5 gn5 gc5,.slice KA5 kn5 kc5,.int .i64 a5,.int .i64 b5,.int .i64 d5] 35);have Hp5:=heap_alloc_new (W88.alloc (.cells #[.slice EA5 en5 ec5,.slice LA5 ln5 lc5,.int .i64 q05,.int .i64 q15,.int .i64 q25,.int .i64 q35] 27)) (.cells #[.slice I5 p5 q5,.slice GA5 gn5 gc5,.slice KA5 kn5 kc5,.int .i64 a5,.int .i64 b5,.int .i64 d5] 35);rw [show (W88.alloc (.cells #[.slice EA5 en5 ec5,.slice LA5 ln5 lc5,.int .i64 q05,.int .i64 q15,.int .i64 q25,.int .i64 q35] 27)).heap.size = W88.heap.size + 1 by simp] at Hp5
     replace Bw:=bt Bw hb
     replace Bd:=bt Bd hb
     replace Be:=bt Be hb
     replace Bg:=bt Bg hb
     replace Hx5:=heap_old Hx5 hb
     clear hb;generalize ((W88.alloc (.cells #[.slice EA5 en5 ec5,.slice LA5 ln5 lc5,.int .i64 q05,.int .i64 q15,.int .i64 q25,.int .i64 q35] 27)).alloc (.cells #[.slice I5 p5 q5,.slice GA5 gn5 gc5,.slice KA5 kn5 kc5,.int .i64 a5,.int .i64 b5,.int .i64 d5] 35)) = W89 at *;refine (cl1 W89 Bg Bw).mono ?_;rintro e W90 ⟨x8,rfl,hw⟩;have hb : Below W89.heap.size W89 W90:=by rw [hw];exact ext_below _ _
     clear hw
     replace Bw:=bt Bw hb
     replace Bd:=bt Bd hb
     replace Be:=bt Be hb
     replace Bg:=bt Bg hb
     replace Hx5:=heap_old Hx5 hb
     replace Hp5:=heap_old Hp5 hb
     clear hb;obtain ⟨kx50,kx51,kx52,kx53,kx54,kx55,kx56⟩:=blkl Hx5;obtain ⟨kp50,kp51,kp52,kp53,kp54,kp55,kp56⟩:=blkl Hp5;go_wp2_with fail
     refine (cl2 W90 Bg).mono ?_;rintro e W91 ⟨x9,rfl,hw⟩;have hb : Below W90.heap.size W90 W91:=by rw [hw];exact ext_below _ _
     clear hw;clear kx50 kx51 kx52 kx53 kx54 kx55 kx56 kp50 kp51 kp52 kp53 kp54 kp55 kp56
     replace Bw:=bt Bw hb
     replace Bd:=bt Bd hb
     replace Be:=bt Be hb
     replace Bg:=bt Bg hb
     replace Hx5:=heap_old Hx5 hb
     replace Hp5:=heap_old Hp5 hb
     clear hb;obtain ⟨kx50,kx51,kx52,kx53,kx54,kx55,kx56⟩:=blkl Hx5;obtain ⟨kp50,kp51,kp52,kp53,kp54,kp55,kp56⟩:=blkl Hp5;clear cl1 cl2 hc5 hi5 hm5;clear kx50 kx51 kx52 kx53 kx54 kx55 kx56 kp50 kp51 kp52 kp53 kp54 kp55 kp56;clear Hx5;clear Hp5;go_wp2_with fail
     obtain ⟨hFB,hF0,hEq⟩:=HD.out;have hm40 : m2 <= 1099511627776:=Om;refine (sameIntsQ_any W91 D1 D2 m1 m2 d1 d2 L (o1.rd.below Bd) (o2.rd.below Be) (by rw [<- o1.len,hl2];exact hm40)).mono ?_;rintro e W92 ⟨rfl,x10,hw⟩;have hb : Below W91.heap.size W91 W92:=by rw [hw];exact bDrewN (Below.refl _ _) _
     have hfin:=BW.trans ((Bw.trans (hb.mono Bw.size)).mono BW.size);clear hw hb o1 o2 HD
     cases F
     ·
      cases B
      ·
       go_wp2;go_ret;exact ⟨by simp,hfin⟩
      ·
       cases hFB rfl
     ·
      have h3z : m3 = 0:=by rw [<- hl3,hF0 rfl];rfl
      subst h3z
      cases B
      ·
       go_wp2;go_ret;exact ⟨by simp,hfin⟩
      ·
       have hE:=hEq rfl;by_cases hab : a3 = b3
       ·
        have h2z : m2 = 0:=by rw [<- hl2,hE.2 hab];rfl
        subst h2z hab;clear hEq hE hF0 hFB;go_wp2;go_ret;exact ⟨by simp,hfin⟩
       ·
        have h2p : ¬ (m2 : Int) = 0:=fun h=>hab (hE.1 (List.eq_nil_of_length_eq_zero Om))
        have habB : (a3.toList == b3.toList) = false:=by
         rw [beq_eq_false_iff_ne];intro e;rw [Lib.toList_data,Lib.toList_data] at e;exact hab (by rw [<- bs_of a3,e,bs_of])
        clear hEq hE hF0 hFB;go_wp2;go_ret;exact ⟨by simp,hfin⟩
     ⟩;by exact inferInstanceAs (Nonempty _)) (fun h=>h)
   ⟩;by exact inferInstanceAs (Nonempty _)) (fun h=>h)
end Go.Proofs.YtlfhhkgleapamaaGreatDoor
