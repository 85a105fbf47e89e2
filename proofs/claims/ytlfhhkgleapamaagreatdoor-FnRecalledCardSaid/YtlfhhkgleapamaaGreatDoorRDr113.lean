/- What the reference draws of spoilt texts. Conditions: strings below 2^20 bytes. -/
import Derived.Test.YtlfhhkgleapamaaGreatDoorRDraws
import Derived.Test.YtlfhhkgleapamaaGreatDoorRDoors
import Derived.Test.YtlfhhkgleapamaaGreatDoorRStrs0
import Derived.Test.YtlfhhkgleapamaaGreatDoorRDr910
import Derived.Test.YtlfhhkgleapamaaGreatDoorRPar7s
set_option linter.unusedVariables false
set_option linter.unusedSimpArgs false
set_option maxRecDepth 100000
set_option maxHeartbeats 16000000
namespace Go.Proofs.YtlfhhkgleapamaaGreatDoor
open Go.RowKit
theorem oneB_le (n : Int) : (oneB n).size <= 1:=by simp [oneB,ByteArray.size_push]
def RetSt (R w : World) (g : Nat) (A : OA) (n c k : Nat) (l : List Int) (m : Nat) (e : Ending) (w' : World) : Prop:=∃ s : ByteArray,e = .returned (.string s) /\ s.size <= m /\ Cx R w' g A n c k l /\ w.grownBy w' (some g)
theorem spoilt_any {R w : World} {g n c k : Nat} {A : OA} {l : List Int} (h : Cx R w g A n c k l) (hk : k <= 1000000) (t wi : ByteArray) (ht : t.size <= 900000) (hw1 : 1 <= wi.size) (hw2 : wi.size <= 1000) :
  Calls Tryz.prog 62 #[.pointer (some ⟨g,0,none⟩),.string t,.string wi] w (RetSt R w g A n c (k + 20) l (t.size + 2)):=by
 go_enter Tryz.func62,Tryz.ntmps62;go_wp2_with fail
 refine (pick_cx h 2 Om Om Om).mono ?_;intro e w1 hp;obtain ⟨v1,⟨ha0,ha1⟩,rfl,h1,g1⟩:=h.pick hp;clear hp;obtain ⟨N,hN⟩ : ∃ N : Nat,1 + v1 = N:=⟨(1 + v1).toNat,Om⟩;have hN2 : N <= 2:=Om;have e1 : IntKind.i64.wrap (1 + v1) = N:=by rw [IntWalk.i64_in _ Om];exact hN
 clear hN;go_wp2
 go_loopw [1,7,8,9,44,55] (fun u i _ _ _ _ wr=>∃ (q : Nat) (ts : ByteArray),q <= N /\ i = .int .i64 q /\ u = .string ts /\ ts.size + q <= t.size + N /\ Cx R wr g A n c (k + 2 + 8 * (N - q)) l /\ w.grownBy wr (some g)) (fun _ i _ _ _ _ _=>(intOf i).toNat)
 case atStart=>exact ⟨N,t,Nat.le_refl _,rfl,rfl,Nat.le_refl _,h1.mono Om,g1⟩
 case round =>
  obtain ⟨q,ts,hq,rfl,rfl,hz,hX,hG⟩:=hrel;by_cases hq0 : 0 < q
  ·
   have hq0I : (0 : Int) < q:=Om;by_cases hts : 0 < ts.size
   ·
    have htsI : (0 : Int) < ts.size:=Om;go_wp2_with fail
    refine (pick_cx hX ts.size Om Om Om).mono ?_;intro e w2 hp;obtain ⟨v2,⟨hb0,hb1⟩,rfl,h2,g2⟩:=hX.pick hp;clear hp;obtain ⟨i,rfl⟩ : ∃ i : Nat,v2 = i:=⟨v2.toNat,Om⟩;have hi : i < ts.size:=Om;go_wp2_with fail
    refine (pick_cx h2 wi.size Om Om Om).mono ?_;intro e w3 hp;obtain ⟨v3,⟨hc0,hc1⟩,rfl,h3,g3⟩:=h2.pick hp;clear hp;obtain ⟨j,rfl⟩ : ∃ j : Nat,v3 = j:=⟨v3.toNat,Om⟩;have hj : j < wi.size:=Om;go_wp2_with fail
    have h4:=h3.below (bAlloc (Below.refl _ w3) (.cells #[.int .u8 (wi[j].toNat : Int)] 5));have g4:=((hG.trans g2).trans g3).trans (World.grownBy_alloc w3 (.cells #[.int .u8 (wi[j].toNat : Int)] 5) (some g));refine (pick_cx h4 3 Om Om Om).mono ?_;intro e w5 hp;obtain ⟨v4,⟨hd0,hd1⟩,rfl,h5,g5⟩:=h4.pick hp;clear hp;have hX5:=h5.mono (k':=k + 2 + 8 * (N - (q - 1))) Om;have hG5:=g4.trans g5;have hbb : (oneB (wi[j].toNat : Int)).size <= 1:=oneB_le _;generalize oneB (wi[j].toNat : Int) = bb at *;clear h1 g1 h2 g2 h3 g3 h4 g4 h5 g5 hX hG;have hiI : (i : Int) <= ts.size:=Om;have hi1I : (i : Int) + 1 <= ts.size:=Om;have e9 : IntKind.i64.wrap ((i : Int) + 1) = ((i + 1 : Nat) : Int):=by rw [IntWalk.i64_in _ Om];omega
    have e8 : IntKind.i64.wrap ((q : Int) - 1) = ((q - 1 : Nat) : Int):=by rw [IntWalk.i64_in _ Om];omega
    have x1 : (ts.extract 0 i).size = i:=by rw [ByteArray.size_extract];omega
    have x2 : (ts.extract i ts.size).size = ts.size - i:=by rw [ByteArray.size_extract];omega
    have x3 : (ts.extract (i + 1) ts.size).size = ts.size - (i + 1):=by rw [ByteArray.size_extract];omega
    have f1 : Fit (ts.extract 0 i ++ bb):=ft;have f2 : Fit (ts.extract 0 i ++ bb ++ ts.extract i ts.size):=ft;have f3 : Fit (ts.extract 0 i ++ bb ++ ts.extract (i + 1) ts.size):=ft;have f4 : Fit (ts.extract 0 i ++ ts.extract (i + 1) ts.size):=ft;have s2 : (ts.extract 0 i ++ bb ++ ts.extract i ts.size).size <= ts.size + 1:=by simp only [ByteArray.size_append];omega
    have s3 : (ts.extract 0 i ++ bb ++ ts.extract (i + 1) ts.size).size <= ts.size:=by simp only [ByteArray.size_append];omega
    have s4 : (ts.extract 0 i ++ ts.extract (i + 1) ts.size).size <= ts.size:=by simp only [ByteArray.size_append];omega
    have HX:=fun m=>hX5.below (bDrewN (Below.refl _ _) m)
    have HG:=fun m=>hG5.trans (grownBy_of_below (row:=some g) (bDrewN (Below.refl w5.heap.size w5) m))
    by_cases e0 : v4 = 0
    ·
     subst e0;clear x1 x2 x3;go_wp2
     go_quiet (fail)
     go_wp2;go_roundw
     case rel=>exact ⟨q - 1,_,Om,rfl,rfl,Om,HX _,HG _⟩
     case measure=>simp [intOf];omega
    ·
     by_cases e1 : v4 = 1
     ·
      subst e1;clear x1 x2 x3;go_wp2
      go_quiet (fail)
      go_wp2;go_roundw
      case rel=>exact ⟨q - 1,_,Om,rfl,rfl,Om,HX _,HG _⟩
      case measure=>simp [intOf];omega
     ·
      clear x1 x2 x3;go_wp2
      go_quiet (fail)
      go_wp2;go_roundw
      case rel=>exact ⟨q - 1,_,Om,rfl,rfl,Om,HX _,HG _⟩
      case measure=>simp [intOf];omega
   ·
    have htsI : ¬ (0 : Int) < ts.size:=Om;go_wp2;go_ret;exact ⟨ts,rfl,Om,hX.mono Om,hG⟩
  ·
   have hq0I : ¬ (0 : Int) < q:=Om;go_wp2;go_ret;exact ⟨ts,rfl,Om,hX.mono Om,hG⟩
def CRs (s t : Nat) (w : World) (EA : OA) (en : Nat) (LA : OA) (ln : Nat) : Prop :=
 ∃ els lims,∀ W,Rls s t w W -> CodeR W EA en LA ln els lims
section
variable {s s' t t' : Nat} {w W : World} {EA : OA} {en ec : Nat} {LA : OA} {ln lc : Nat}
theorem CRs.step (h : CRs s t w EA en LA ln) (hr : Rls s t w W) : CRs s t W EA en LA ln:=by
 obtain ⟨els,lims,h⟩:=h;exact ⟨els,lims,fun W' h'=>h W' (hr.trans h')⟩
theorem CRs.low (h : CRs s t w EA en LA ln) (hs : s' <= s) (ht : t <= t') : CRs s' t' w EA en LA ln:=by
 obtain ⟨els,lims,h⟩:=h;exact ⟨els,lims,fun W' h'=>h W' (h'.wide hs ht)⟩
theorem CdO.crs (h : CdO s w EA en ec LA ln lc) : CRs s w.heap.size w EA en LA ln:=by
 obtain ⟨⟨el,h1,h2⟩,⟨ll,h3⟩,_,h4,h5⟩:=h;have hl : el.length = en:=by have:=h1.1;rw [elCells_len] at this;omega
 exact ⟨el,ll,fun W hW=>⟨Ow.rdK h1 hW.size (fun b hb1 hb2=>hW.keep (Nat.le_refl _) hb1 hb2),Ow.rdK h3 hW.size (fun b hb1 hb2=>hW.keep (Nat.le_refl _) hb1 hb2),Om,Om,fun x hx=>by have:=h2 x hx;omega⟩⟩
end
def RetTx (R w : World) (g : Nat) (A : OA) (n c k : Nat) (l : List Int) (e : Ending) (w' : World) : Prop:=∃ (EA : OA) (en ec : Nat) (LA : OA) (ln lc : Nat) (q0 q1 q2 q3 : Int) (s : ByteArray),e = .returned (.tuple #[.agg #[.slice EA en ec,.slice LA ln lc,.int .i64 q0,.int .i64 q1,.int .i64 q2,.int .i64 q3],.string s]) /\ s.size <= 5000 /\ Cx R w' g A n c k l /\ w.grownBy w' (some g) /\ ∃ t,t <= w'.heap.size /\ CRs (w.heap.size + 1) t w' EA en LA ln
theorem RetTx.mk_ {R w W : World} {g n c k k' : Nat} {A : OA} {l : List Int} {EA : OA} {en ec : Nat} {LA : OA} {ln lc : Nat} {q0 q1 q2 q3 : Int} {s : ByteArray} {t : Nat} (hX : Cx R W g A n c k l) (hk : k <= k') (hG : w.grownBy W (some g)) (hR : R.heap.size <= w.heap.size) (hg : g < w.heap.size) (hs : s.size <= 5000) (ht : t <= W.heap.size) (hC : CRs (w.heap.size + 1) t W EA en LA ln) :
  RetTx R w g A n c k' l (.returned (.tuple #[.agg #[.slice EA en ec,.slice LA ln lc,.int .i64 q0,.int .i64 q1,.int .i64 q2,.int .i64 q3],.string s])) ((((((W.setCell ⟨w.heap.size,0,none⟩ (.slice EA en ec)).setCell ⟨w.heap.size,1,none⟩ (.slice LA ln lc)).setCell ⟨w.heap.size,2,none⟩ (.int .i64 q0)).setCell ⟨w.heap.size,3,none⟩ (.int .i64 q1)).setCell ⟨w.heap.size,4,none⟩ (.int .i64 q2)).setCell ⟨w.heap.size,5,none⟩ (.int .i64 q3)):=by
 refine (fun (hRl : Rls (w.heap.size + 1) t W _)=>⟨EA,en,ec,LA,ln,lc,q0,q1,q2,q3,s,rfl,hs,?_,?_,t,Nat.le_trans ht hRl.size,hC.step hRl⟩) ?_
 ·
  iterate 6 (refine Rls.set ?_ (Or.inl Om) _ _)
  exact .refl _
 ·
  refine Cx.mono ?_ hk
  iterate 6 (refine Cx.set ?_ hR Om _ _)
  exact hX
 ·
  iterate 6 (refine grow_set ?_ (Nat.le_refl _) _ _)
  exact hG
theorem one_more {ts : ByteArray} {m : Nat} (h : ts.size < m) (hm : m <= 5000) : Fit (ts ++ ⟨#[10]⟩) /\ (ts ++ ⟨#[10]⟩ : ByteArray).size = ts.size + 1:=by
 have : ByteArray.size (⟨#[10]⟩ : ByteArray) = 1:=rfl;refine ⟨?_,?_⟩
 ·
  unfold Fit;simp only [ByteArray.size_append];omega
 ·
  simp only [ByteArray.size_append];omega
theorem protocol_any {R w : World} {g n c k : Nat} {A : OA} {l : List Int} (h : Cx R w g A n c k l) (hk : k <= 200000) :
  Calls Tryz.prog 50 #[.pointer (some ⟨g,0,none⟩)] w (RetTx R w g A n c (k + 170000) l):=by
 have hgl:=h.cur.lt;have hRw:=h.bel.size;have h0:=h.below (bAlloc (Below.refl _ w) zCode);have z0:=heap_alloc_new w zCode;have gg0 : w.grownBy (w.alloc zCode) (some g):=World.grownBy_alloc w zCode (some g);have hsz0 : (w.alloc zCode).heap.size = w.heap.size + 1:=by simp
 go_enter Tryz.func50,Tryz.ntmps50;simp only [zCode] at h0 z0 gg0 hsz0;go_wp2_with fail
 generalize w.alloc (oC none 0 0 none 0 0 0 0 0 0) = w1 at *;refine (performance_any h0 Om).mono ?_;rintro e w2 ⟨EA,en,ec,LA,ln,lc,q0,q1,q2,q3,I,p,q,GA,gn,gc,KA,kn,kc,a,b,d,rfl,hp15,h2,g2,t,ht,hP2⟩;have F1 : XW R w w2 g A n c (k + 160000) l (w.heap.size + 1) t w2 [(w.heap.size,(oC none 0 0 none 0 0 0 0 0 0))] :=
  ⟨h2,gg0.trans g2,⟨heap_kept z0 g2 Om,trivial⟩,⟨by dsimp only;omega,trivial⟩,.refl _,.inl Om⟩
 have F3:=(F1.box (oC EA en ec LA ln lc q0 q1 q2 q3)).box (oP I p q GA gn gc KA kn kc a b d);rw [show (w2.alloc (oC EA en ec LA ln lc q0 q1 q2 q3)).heap.size = w2.heap.size + 1 by simp] at F3;have hbx : w.heap.size + 1 <= w2.heap.size:=by have:=g2.size;omega
 obtain ⟨els,lims,its,gg,kk,hil,hr⟩:=hP2.low (show w.heap.size + 1 <= w1.heap.size + 2 by omega) (Nat.le_refl t);have hC2 : CRs (w.heap.size + 1) t w2 EA en LA ln:=⟨els,lims,fun W hW=>(hr W hW).1⟩;clear hP2 z0 gg0 g2 h0 hsz0 h2 F1 hil;go_wp2_with fail
 generalize (w2.alloc (oC EA en ec LA ln lc q0 q1 q2 q3)).alloc (oP I p q GA gn gc KA kn kc a b d) = w3 at *;generalize hbe : w2.heap.size = bx at *;clear hbe;refine (percentOf_any F3.cx Om).mono ?_;rintro e w4 ⟨f,hf,rfl,h4,g4⟩;have F4:=F3.step h4 g4;obtain ⟨hc4,hi4,hm4⟩:=hr _ F4.rl;have cs:=sgAsked_any w4 EA LA en ln ec lc els lims q0 q1 q2 q3 hc4 I p q its hi4 GA KA gn gc kn kc gg kk hm4 a b d f;clear F3 h4 g4 hf hc4 hi4 hm4;obtain ⟨⟨p0,p1,p2,p3,p4,p5⟩,o0,o1,o2,o3,o4,o5⟩:=blk6 F4.bk.hd;obtain ⟨⟨c0,c1,c2,c3,c4,c5⟩,e0,e1,e2,e3,e4,e5⟩:=blk6 F4.bk.tl.hd;have hlp:=(Array.getElem?_eq_some_iff.1 F4.bk.hd).1;have hlc:=(Array.getElem?_eq_some_iff.1 F4.bk.tl.hd).1;go_wp2_with fail
 refine cs.mono ?_;generalize hq : askB els lims q0 q1 q2 q3 its gg kk a b d f = bq;rintro e w5 ⟨rfl,x5,hw5⟩;have F5:=F4.below (show Below w4.heap.size w4 w5 from hw5 ▸ ext_below w4 x5);clear cs hw5 p0 p1 p2 p3 p4 p5 o0 o1 o2 o3 o4 o5 c0 c1 c2 c3 c4 c5 e0 e1 e2 e3 e4 e5 hlp hlc F4
 cases bq
 case false =>
  obtain ⟨⟨y0,y1,y2,y3,y4,y5⟩,x0,x1,x2,x3,x4,x5⟩:=blk6 F5.bk.tl.tl.hd;have hlr:=(Array.getElem?_eq_some_iff.1 F5.bk.tl.tl.hd).1;obtain ⟨⟨c0,c1,c2,c3,c4,c5⟩,e0,e1,e2,e3,e4,e5⟩:=blk6 F5.bk.tl.hd;have hlc:=(Array.getElem?_eq_some_iff.1 F5.bk.tl.hd).1;go_wp2;refine bodyPost_ret (v:=.tuple #[.agg #[.slice EA en ec,.slice LA ln lc,.int .i64 q0,.int .i64 q1,.int .i64 q2,.int .i64 q3],.string ⟨#[112,114,111,116,111,99,111,108,32,55,32,49,48,48,10,115,108,105,112,115,32,48,32,48,32,48,10]⟩]) (by simp [results,Tryz.results50,go_sem,y0,y1,y2,y3,y4,y5,x0,x1,x2,x3,x4,x5,hlr]) rfl ?_;exact RetTx.mk_ F5.cx Om F5.gr hRw hgl (by decide) Om (hC2.step F5.rl)
 case true =>
  have hP:=ask_of hq;have hPB : ∀ v : Int,1 <= v /\ v <= 999 -> proB els lims q0 q1 q2 q3 its gg kk a b d v f = true:=fun v hv=>by
   unfold proB;rw [hq,inB_iff.2 hv];rfl
  have ct:=fun (W : World) (hW : Rls (w.heap.size + 1) t w2 W) (v : Int) (hv : 1 <= v /\ v <= 999)=>ptText_any W EA LA en ln ec lc els q0 q1 q2 q3 I p q its GA KA gn gc kn kc gg kk a b d ⟨⟨(hr W hW).1.1,(hr W hW).1.2.2.1⟩,⟨(hr W hW).2.1.1,(hr W hW).2.1.2.2.1⟩,(hr W hW).2.2.1⟩ (hr W hW).2.2 hP.1 v f hv hP.2
  clear hq hP hr;go_upto_region 5 with fail
  skip
  have F6:=F5.drew;have k6:=c12 F6.bk.tl.hd F6.bk.hd;have cp:=pick_cx F6.cx 999 Om Om Om;clear F5
  go_region_held3 (fun w'=>w'.cell? ⟨bx,0,none⟩ = some (.slice EA en ec) /\ w'.cell? ⟨bx,1,none⟩ = some (.slice LA ln lc) /\ w'.cell? ⟨bx,2,none⟩ = some (.int .i64 q0) /\ w'.cell? ⟨bx,3,none⟩ = some (.int .i64 q1) /\ w'.cell? ⟨bx,4,none⟩ = some (.int .i64 q2) /\ w'.cell? ⟨bx,5,none⟩ = some (.int .i64 q3) /\ w'.cell? ⟨bx + 1,0,none⟩ = some (.slice I p q) /\ w'.cell? ⟨bx + 1,1,none⟩ = some (.slice GA gn gc) /\ w'.cell? ⟨bx + 1,2,none⟩ = some (.slice KA kn kc) /\ w'.cell? ⟨bx + 1,3,none⟩ = some (.int .i64 a) /\ w'.cell? ⟨bx + 1,4,none⟩ = some (.int .i64 b) /\ w'.cell? ⟨bx + 1,5,none⟩ = some (.int .i64 d)) (first | with_reducible exact k6 | with_reducible exact k7 | with_reducible exact k8 | (trace_state;fail)) (first | (go_at_call 56;(with_reducible refine cp.mono ?_);intro e w7 hp;obtain ⟨v7,⟨hv0,hv1⟩,rfl,h7,g7⟩:=F6.cx.pick hp;have F7:=F6.step h7 g7;have k7:=c12 F7.bk.tl.hd F7.bk.hd;have e7 : IntKind.i64.wrap (1 + v7) = 1 + v7:=IntWalk.i64_in _ Om) | (go_at_call 43;(with_reducible refine (ct _ F7.rl (1 + v7) ⟨Om,Om⟩).mono ?_);rintro e w8 ⟨rfl,x8,rfl⟩;have F8:=F7.below (ext_below w7 x8);have k8:=c12 F8.bk.tl.hd F8.bk.hd))
  have hz:=textV_size (hPB (1 + v7) ⟨Om,Om⟩);generalize textV els q0 q1 q2 q3 its gg kk a b d (1 + v7) f = s at *;generalize ext w7 x8 = w8 at *;clear hPB ct cp h7 g7 hp hv0 hv1 F6 F7 k6 k7 k8;go_wp2_with fail
  refine (pick_cx F8.cx 8 Om Om Om).mono ?_;intro e w9 hp;obtain ⟨v9,⟨hv0,hv1⟩,rfl,h9,g9⟩:=F8.cx.pick hp;have F9:=F8.step h9 g9;clear hp F8 h9 g9;by_cases e0 : v9 = 0
  ·
   subst e0;go_upto_region 9 with fail
   skip
   have F10:=F9.drew;have k10:=c6 F10.bk.tl.hd;have n1 : bx ≠ w.heap.size:=Om;have cp:=spoilt_any F10.cx Om s ⟨#[48,49,50,51,32,103,99,101,46,45,10]⟩ Om (by decide) (by decide);obtain ⟨⟨y0,y1,y2,y3,y4,y5⟩,x0,x1,x2,x3,x4,x5⟩:=blk6 F10.bk.tl.tl.hd
   go_region_held3 (fun w'=>w'.cell? ⟨bx,0,none⟩ = some (.slice EA en ec) /\ w'.cell? ⟨bx,1,none⟩ = some (.slice LA ln lc) /\ w'.cell? ⟨bx,2,none⟩ = some (.int .i64 q0) /\ w'.cell? ⟨bx,3,none⟩ = some (.int .i64 q1) /\ w'.cell? ⟨bx,4,none⟩ = some (.int .i64 q2) /\ w'.cell? ⟨bx,5,none⟩ = some (.int .i64 q3)) (first | with_reducible exact k10 | with_reducible exact k11 | with_reducible exact k12 _ _ _ _ _ _ | (trace_state;fail)) ((go_at_call 62;(with_reducible refine cp.mono ?_);rintro e w11 ⟨u,rfl,hu,h11,g11⟩;have F11:=F10.step h11 g11;have k11:=c6 F11.bk.tl.hd;have k12:=fun v0 v1 v2 v3 v4 v5=>c6 (heap_six F11.bk.tl.hd n1 v0 v1 v2 v3 v4 v5);obtain ⟨⟨y0,y1,y2,y3,y4,y5⟩,x0,x1,x2,x3,x4,x5⟩:=blk6 F11.bk.tl.tl.hd;have hlr:=(Array.getElem?_eq_some_iff.1 F11.bk.tl.tl.hd).1))
   have hlc:=(Array.getElem?_eq_some_iff.1 F11.bk.tl.hd).1;go_wp2;refine bodyPost_ret (v:=.tuple #[.agg #[.slice EA en ec,.slice LA ln lc,.int .i64 q0,.int .i64 q1,.int .i64 q2,.int .i64 q3],.string u]) (by simp [results,Tryz.results50,go_sem,y0,y1,y2,y3,y4,y5,x0,x1,x2,x3,x4,x5,hlr]) rfl ?_;exact RetTx.mk_ F11.cx Om F11.gr hRw hgl Om Om (hC2.step F11.rl)
  by_cases e1 : v9 = 1
  ·
   subst e1;go_upto_region 9 with fail
   skip
   have F10:=F9.drew;have k10:=c6 F10.bk.tl.hd;have n1 : bx ≠ w.heap.size:=Om;have cp:=spoilt_any F10.cx Om s ⟨#[48,49,50,51,32,103,99,101,46,45,10]⟩ Om (by decide) (by decide);obtain ⟨⟨y0,y1,y2,y3,y4,y5⟩,x0,x1,x2,x3,x4,x5⟩:=blk6 F10.bk.tl.tl.hd
   go_region_held3 (fun w'=>w'.cell? ⟨bx,0,none⟩ = some (.slice EA en ec) /\ w'.cell? ⟨bx,1,none⟩ = some (.slice LA ln lc) /\ w'.cell? ⟨bx,2,none⟩ = some (.int .i64 q0) /\ w'.cell? ⟨bx,3,none⟩ = some (.int .i64 q1) /\ w'.cell? ⟨bx,4,none⟩ = some (.int .i64 q2) /\ w'.cell? ⟨bx,5,none⟩ = some (.int .i64 q3)) (first | with_reducible exact k10 | with_reducible exact k11 | with_reducible exact k12 _ _ _ _ _ _ | (trace_state;fail)) ((go_at_call 62;(with_reducible refine cp.mono ?_);rintro e w11 ⟨u,rfl,hu,h11,g11⟩;have F11:=F10.step h11 g11;have k11:=c6 F11.bk.tl.hd;have k12:=fun v0 v1 v2 v3 v4 v5=>c6 (heap_six F11.bk.tl.hd n1 v0 v1 v2 v3 v4 v5);obtain ⟨⟨y0,y1,y2,y3,y4,y5⟩,x0,x1,x2,x3,x4,x5⟩:=blk6 F11.bk.tl.tl.hd;have hlr:=(Array.getElem?_eq_some_iff.1 F11.bk.tl.tl.hd).1))
   have hlc:=(Array.getElem?_eq_some_iff.1 F11.bk.tl.hd).1;go_wp2;refine bodyPost_ret (v:=.tuple #[.agg #[.slice EA en ec,.slice LA ln lc,.int .i64 q0,.int .i64 q1,.int .i64 q2,.int .i64 q3],.string u]) (by simp [results,Tryz.results50,go_sem,y0,y1,y2,y3,y4,y5,x0,x1,x2,x3,x4,x5,hlr]) rfl ?_;exact RetTx.mk_ F11.cx Om F11.gr hRw hgl Om Om (hC2.step F11.rl)
  by_cases e2 : v9 = 2
  ·
   subst e2;go_wp2_with fail
   refine (anyCode_any F9.cx Om).mono ?_;rintro e w10 ⟨EB,fn,fc,LB,mn,mc,r0,r1,r2,r3,rfl,h10,g10,hCd,_⟩;have F10:=F9.step h10 g10;have hC10:=hCd.crs.low (show w.heap.size + 1 <= w9.heap.size by have:=(Array.getElem?_eq_some_iff.1 F9.bk.hd).1;omega) (Nat.le_refl _);obtain ⟨⟨y0,y1,y2,y3,y4,y5⟩,x0,x1,x2,x3,x4,x5⟩:=blk6 F10.bk.tl.tl.hd;have hlr:=(Array.getElem?_eq_some_iff.1 F10.bk.tl.tl.hd).1;go_wp2;refine bodyPost_ret (v:=.tuple #[.agg #[.slice EB fn fc,.slice LB mn mc,.int .i64 r0,.int .i64 r1,.int .i64 r2,.int .i64 r3],.string s]) (by simp [results,Tryz.results50,go_sem,y0,y1,y2,y3,y4,y5,x0,x1,x2,x3,x4,x5,hlr]) rfl ?_;exact RetTx.mk_ F10.cx Om F10.gr hRw hgl Om (Nat.le_refl _) hC10
  by_cases e3 : v9 = 3
  ·
   subst e3;go_wp2_with fail
   refine (one_cx F9.cx 3 Om Om Om).mono ?_;rintro e w10 ⟨bo,rfl,hC10,g10⟩;have F10:=F9.step (F9.cx.grow hC10 g10) g10;clear F9 hC10 g10
   cases bo
   ·
    
    obtain ⟨⟨y0,y1,y2,y3,y4,y5⟩,x0,x1,x2,x3,x4,x5⟩:=blk6 F10.bk.tl.tl.hd;have hlr:=(Array.getElem?_eq_some_iff.1 F10.bk.tl.tl.hd).1;obtain ⟨⟨c0,c1,c2,c3,c4,c5⟩,e0,e1,e2,e3,e4,e5⟩:=blk6 F10.bk.tl.hd;have hlc:=(Array.getElem?_eq_some_iff.1 F10.bk.tl.hd).1;go_wp2;refine bodyPost_ret (v:=.tuple #[.agg #[.slice EA en ec,.slice LA ln lc,.int .i64 q0,.int .i64 q1,.int .i64 q2,.int .i64 q3],.string s]) (by simp [results,Tryz.results50,go_sem,y0,y1,y2,y3,y4,y5,x0,x1,x2,x3,x4,x5,hlr]) rfl ?_;exact RetTx.mk_ F10.cx Om F10.gr hRw hgl Om Om (hC2.step F10.rl)
   ·
    go_wp2_with fail
    refine (pick_cx F10.cx 2 Om Om Om).mono ?_;intro e w11 hp;obtain ⟨v11,⟨hu0,hu1⟩,rfl,h11,g11⟩:=F10.cx.pick hp;have F11:=F10.step h11 g11;clear hp F10 h11 g11;obtain ⟨m,hm,hm2⟩ : ∃ m : Nat,4000 + v11 = m /\ m <= 4001:=⟨(4000 + v11).toNat,Om,Om⟩;have em : IntKind.i64.wrap (4000 + v11) = m:=by rw [IntWalk.i64_in _ Om];exact hm
    clear hm;go_wp2_with fail
    go_loopw [7,50,51,52,53,54,55] (fun u _ _ _ _ _ _ wr=>∃ ts : ByteArray,u = .string ts /\ ts.size <= 4001 /\ wr = w11) (fun u _ _ _ _ _ _ _=>match u with | .string ts=>m - ts.size | _=>0)
    case atStart=>first | exact ⟨s,rfl,Om,trivial⟩ | exact ⟨s,rfl,Om,rfl⟩
    case round=>
     obtain ⟨ts,rfl,hts,rfl⟩:=hrel;by_cases hlt : ts.size < m
     ·
      have hltI : (ts.size : Int) < m:=Om;obtain ⟨hfit,hsz⟩:=one_more hlt Om;go_wp2;go_roundw
      case rel=>first | exact ⟨_,rfl,Om,rfl⟩ | exact ⟨_,rfl,Om,trivial⟩
      case measure=>simp only [hsz];omega
     ·
      have hltI : ¬ (ts.size : Int) < m:=Om;clear hz;generalize ts = s at *;obtain ⟨⟨y0,y1,y2,y3,y4,y5⟩,x0,x1,x2,x3,x4,x5⟩:=blk6 F11.bk.tl.tl.hd;have hlr:=(Array.getElem?_eq_some_iff.1 F11.bk.tl.tl.hd).1;obtain ⟨⟨c0,c1,c2,c3,c4,c5⟩,e0,e1,e2,e3,e4,e5⟩:=blk6 F11.bk.tl.hd;have hlc:=(Array.getElem?_eq_some_iff.1 F11.bk.tl.hd).1;go_wp2;refine bodyPost_ret (v:=.tuple #[.agg #[.slice EA en ec,.slice LA ln lc,.int .i64 q0,.int .i64 q1,.int .i64 q2,.int .i64 q3],.string s]) (by simp [results,Tryz.results50,go_sem,y0,y1,y2,y3,y4,y5,x0,x1,x2,x3,x4,x5,hlr]) rfl ?_;exact RetTx.mk_ F11.cx Om F11.gr hRw hgl Om Om (hC2.step F11.rl)
  ·
   
   obtain ⟨⟨y0,y1,y2,y3,y4,y5⟩,x0,x1,x2,x3,x4,x5⟩:=blk6 F9.bk.tl.tl.hd;have hlr:=(Array.getElem?_eq_some_iff.1 F9.bk.tl.tl.hd).1;obtain ⟨⟨c0,c1,c2,c3,c4,c5⟩,e0,e1,e2,e3,e4,e5⟩:=blk6 F9.bk.tl.hd;have hlc:=(Array.getElem?_eq_some_iff.1 F9.bk.tl.hd).1;go_wp2;refine bodyPost_ret (v:=.tuple #[.agg #[.slice EA en ec,.slice LA ln lc,.int .i64 q0,.int .i64 q1,.int .i64 q2,.int .i64 q3],.string s]) (by simp [results,Tryz.results50,go_sem,y0,y1,y2,y3,y4,y5,x0,x1,x2,x3,x4,x5,hlr]) rfl ?_;exact RetTx.mk_ F9.cx Om F9.gr hRw hgl Om Om (hC2.step F9.rl)
theorem cx_newR {w w0 : World} {A : OA} {n c : Nat} {l : List Int} (hr : RdY w A n l) (hn : n <= 9223372036854775807) (hb : Below w.heap.size w w0) : Cx w (w0.alloc (.cells #[.slice A n c,.int .i64 0,.int .u64 0] 70)) w0.heap.size A n c 0 l :=
 have h:=cx_new (c:=c) (hr.below hb) hn
 ⟨h.cur,hr,hb.trans (h.bel.mono hb.size),hb.size,hn⟩
theorem XW.start {w w0 : World} {A : OA} {n c g : Nat} {l : List Int} {bs : List (Nat × Obj)} (h : Cx w (w0.alloc (.cells #[.slice A n c,.int .i64 0,.int .u64 0] 70)) g A n c 0 l) (hb : Bk w0 bs) (hn : Nin g bs) (hB : Below w.heap.size w w0) : XW w w (w0.alloc (.cells #[.slice A n c,.int .i64 0,.int .u64 0] 70)) g A n c 0 l (g + 1) 0 (w0.alloc (.cells #[.slice A n c,.int .i64 0,.int .u64 0] 70)) bs :=
 ⟨h,grownBy_of_below (bAlloc hB _),hb.below (bAlloc (Below.refl _ w0) _),hn,.refl _,.inl Om⟩
theorem XW.at_ {R w W W0 : World} {g n c k : Nat} {A : OA} {l : List Int} {lim t : Nat} {bs : List (Nat × Obj)} (F : XW R w W g A n c k l lim t W0 bs) (lim' t' : Nat) (h : g < lim' ∨ t' <= g) : XW R w W g A n c k l lim' t' W bs:=⟨F.cx,F.gr,F.bk,F.ng,.refl _,h⟩
def RetPk (R w : World) (g : Nat) (A : OA) (n c k : Nat) (l : List Int) (q : Int) (e : Ending) (w' : World) : Prop:=∃ r : Int,(0 <= r /\ (r = 0 ∨ r < q)) /\ e = .returned (.int .i64 r) /\ Cx R w' g A n c k l /\ w.grownBy w' (some g)
theorem pick_all {R w : World} {g n c k : Nat} {A : OA} {l : List Int} (h : Cx R w g A n c k l) (q : Int) (hk : k <= 1099511627000) (hq2 : q <= 1099511627776) :
  Calls Tryz.prog 56 #[.pointer (some ⟨g,0,none⟩),.int .i64 q] w (RetPk R w g A n c (k + 2) l q):=by
 by_cases hq : 1 <= q
 ·
  refine (pick_cx h q hk hq hq2).mono ?_;intro e w' hp;obtain ⟨v,⟨h0,h1⟩,rfl,hX,hG⟩:=h.pick hp;exact ⟨v,⟨h0,.inr Om⟩,rfl,hX,hG⟩
 ·
  have hq1 : q <= 1:=Om;go_enter Tryz.func56,Tryz.ntmps56;go_wp2;go_ret;exact ⟨0,⟨Int.le_refl _,.inl rfl⟩,rfl,h.mono Om,grownBy_of_below (Below.refl _ _)⟩
def RetD4 (w : World) (e : Ending) (w' : World) : Prop:=∃ (EA : OA) (en ec : Nat) (LA : OA) (ln lc : Nat) (q0 q1 q2 q3 : Int) (I : OA) (p q : Nat) (GA : OA) (gn gc : Nat) (KA : OA) (kn kc : Nat) (a b d : Int) (u v : Int) (els : List El) (lims : List Int) (its : List It) (gg kk : List (List Int)),e = .returned (.tuple #[.agg #[.slice EA en ec,.slice LA ln lc,.int .i64 q0,.int .i64 q1,.int .i64 q2,.int .i64 q3],.agg #[.slice I p q,.slice GA gn gc,.slice KA kn kc,.int .i64 a,.int .i64 b,.int .i64 d],.int .i64 u,.int .i64 v]) /\ Below w.heap.size w w' /\ its.length = p /\ CodeR w' EA en LA ln els lims /\ ItsR w' I p q its /\ RdMk w' GA gn KA kn gg kk
theorem drawProtocolText_any (w : World) (A : OA) (n c : Nat) (l : List Int) (hr : RdY w A n l) (hn : n <= 9223372036854775807) :
  Calls Tryz.prog 6 #[.slice A n c] w (RetD4 w):=by
 have hb0 : Below w.heap.size w (w.alloc zCode):=bAlloc (Below.refl _ w) zCode;have hb1 : Below w.heap.size w ((w.alloc zCode).alloc zPerf):=bAlloc hb0 zPerf;have hsz0 : ((w.alloc zCode).alloc zPerf).heap.size = w.heap.size + 2:=by simp
 have z1:=heap_alloc_new (w.alloc zCode) zPerf;rw [show (w.alloc zCode).heap.size = w.heap.size + 1 by simp] at z1;have z0:=heap_old (heap_alloc_new w zCode) (bAlloc (Below.refl _ (w.alloc zCode)) zPerf);have h0:=cx_newR (c:=c) hr hn hb1;have F0:=XW.start (bs:=[(w.heap.size + 1,zPerf),(w.heap.size,zCode)]) h0 ⟨z1,z0,trivial⟩ ⟨by rw [hsz0];dsimp only;omega,by rw [hsz0];dsimp only;omega,trivial⟩ hb1;have hsz1 : (((w.alloc zCode).alloc zPerf).alloc (.cells #[.slice A n c,.int .i64 0,.int .u64 0] 70)).heap.size = w.heap.size + 3:=by simp
 rw [hsz0] at F0;clear h0 z0 z1 hb0 hb1 hsz0;go_enter Tryz.func6,Tryz.ntmps6;simp only [zCode,zPerf] at F0 hsz1;go_wp2_with fail
 generalize ((w.alloc (oC none 0 0 none 0 0 0 0 0 0)).alloc (oP none 0 0 none 0 0 none 0 0 0 0 0)).alloc (.cells #[.slice A n c,.int .i64 0,.int .u64 0] 70) = w1 at *;refine (performance_any F0.cx Om).mono ?_;rintro e w2 ⟨EA,en,ec,LA,ln,lc,q0,q1,q2,q3,I,p,q,GA,gn,gc,KA,kn,kc,a,b,d,rfl,hp15,h2,g2,t,ht,hP2⟩;have F1:=(F0.step h2 g2).at_ (w.heap.size + 3) t (.inl Om);obtain ⟨els,lims,its,gg,kk,hil,hr2⟩:=hP2.low (show w.heap.size + 3 <= w1.heap.size + 2 by omega) (Nat.le_refl t);have F3:=(F1.box (oC EA en ec LA ln lc q0 q1 q2 q3)).box (oP I p q GA gn gc KA kn kc a b d);rw [show (w2.alloc (oC EA en ec LA ln lc q0 q1 q2 q3)).heap.size = w2.heap.size + 1 by simp] at F3;have hbx : w.heap.size + 3 <= w2.heap.size:=by have:=g2.size;omega
 clear F0 F1 hP2 h2 g2 hr;go_upto_region 3 with fail;generalize (w2.alloc (oC EA en ec LA ln lc q0 q1 q2 q3)).alloc (oP I p q GA gn gc KA kn kc a b d) = w3 at *;generalize hbe : w2.heap.size = bx at *;clear hbe
 skip
 have F4:=F3.drew;clear F3;have n1 : bx ≠ w.heap.size:=Om;have n2 : bx ≠ w.heap.size + 1:=Om;have n3 : bx + 1 ≠ w.heap.size:=Om;have n4 : bx + 1 ≠ w.heap.size + 1:=Om;have k4:=c12 F4.bk.tl.hd F4.bk.hd;have cn:=number_any F4.cx Om
 go_region_held3 (fun w'=>w'.cell? ⟨bx,0,none⟩ = some (.slice EA en ec) /\ w'.cell? ⟨bx,1,none⟩ = some (.slice LA ln lc) /\ w'.cell? ⟨bx,2,none⟩ = some (.int .i64 q0) /\ w'.cell? ⟨bx,3,none⟩ = some (.int .i64 q1) /\ w'.cell? ⟨bx,4,none⟩ = some (.int .i64 q2) /\ w'.cell? ⟨bx,5,none⟩ = some (.int .i64 q3) /\ w'.cell? ⟨bx + 1,0,none⟩ = some (.slice I p q) /\ w'.cell? ⟨bx + 1,1,none⟩ = some (.slice GA gn gc) /\ w'.cell? ⟨bx + 1,2,none⟩ = some (.slice KA kn kc) /\ w'.cell? ⟨bx + 1,3,none⟩ = some (.int .i64 a) /\ w'.cell? ⟨bx + 1,4,none⟩ = some (.int .i64 b) /\ w'.cell? ⟨bx + 1,5,none⟩ = some (.int .i64 d)) (first | with_reducible exact k4 | with_reducible exact k5 | with_reducible exact k6 | with_reducible exact k7 | with_reducible exact ks1 _ _ _ _ _ _ | with_reducible exact ks2 _ _ _ _ _ _ | with_reducible exact ks3 _ _ _ _ _ _ _ _ _ _ _ _ | with_reducible exact ks4 _ _ _ _ _ _ _ _ _ _ _ _ | (trace_state;fail)) (first | (go_at_call 36;(with_reducible refine cn.mono ?_);rintro e w5 ⟨u,rfl,h5,g5⟩;have F5:=F4.step h5 g5;have k5:=c12 F5.bk.tl.hd F5.bk.hd;have cp:=percentOf_any F5.cx Om) | (go_at_call 37;(with_reducible refine cp.mono ?_);rintro e w6 ⟨v,_,rfl,h6,g6⟩;have F6:=F5.step h6 g6;have k6:=c12 F6.bk.tl.hd F6.bk.hd;have ks1:=fun v0 v1 v2 v3 v4 v5=>c12 (heap_six F6.bk.tl.hd n1 v0 v1 v2 v3 v4 v5) (heap_six F6.bk.hd n3 v0 v1 v2 v3 v4 v5);have ks2:=fun v0 v1 v2 v3 v4 v5=>c12 (heap_six F6.bk.tl.hd n2 v0 v1 v2 v3 v4 v5) (heap_six F6.bk.hd n4 v0 v1 v2 v3 v4 v5);have ks3:=fun v0 v1 v2 v3 v4 v5 u0 u1 u2 u3 u4 u5=>c12 (heap_six (heap_six F6.bk.tl.hd n1 v0 v1 v2 v3 v4 v5) n2 u0 u1 u2 u3 u4 u5) (heap_six (heap_six F6.bk.hd n3 v0 v1 v2 v3 v4 v5) n4 u0 u1 u2 u3 u4 u5);have ks4:=fun v0 v1 v2 v3 v4 v5 u0 u1 u2 u3 u4 u5=>c12 (heap_six (heap_six F6.bk.tl.hd n2 v0 v1 v2 v3 v4 v5) n1 u0 u1 u2 u3 u4 u5) (heap_six (heap_six F6.bk.hd n4 v0 v1 v2 v3 v4 v5) n3 u0 u1 u2 u3 u4 u5);obtain ⟨⟨z0,z1,z2,z3,z4,z5⟩,zf0,zf1,zf2,zf3,zf4,zf5⟩:=blk6 F6.bk.tl.tl.hd;have zl:=(Array.getElem?_eq_some_iff.1 F6.bk.tl.tl.hd).1;obtain ⟨⟨y0,y1,y2,y3,y4,y5⟩,yf0,yf1,yf2,yf3,yf4,yf5⟩:=blk6 F6.bk.tl.tl.tl.hd;have yl:=(Array.getElem?_eq_some_iff.1 F6.bk.tl.tl.tl.hd).1))
 all_goals
  go_wp2;refine bodyPost_ret (v:=.tuple #[.agg #[.slice EA en ec,.slice LA ln lc,.int .i64 q0,.int .i64 q1,.int .i64 q2,.int .i64 q3],.agg #[.slice I p q,.slice GA gn gc,.slice KA kn kc,.int .i64 a,.int .i64 b,.int .i64 d],.int .i64 u,.int .i64 v]) (by simp [results,Tryz.results6,go_sem,y0,y1,y2,y3,y4,y5,z0,z1,z2,z3,z4,z5,yf0,yf1,yf2,yf3,yf4,yf5,zf0,zf1,zf2,zf3,zf4,zf5,yl,zl]) rfl ?_;have hB:=F6.cx.bel;refine (fun (hRl : Rls (w.heap.size + 3) t w2 _)=>⟨EA,en,ec,LA,ln,lc,q0,q1,q2,q3,I,p,q,GA,gn,gc,KA,kn,kc,a,b,d,u,v,els,lims,its,gg,kk,rfl,?_,hil,(hr2 _ hRl).1,(hr2 _ hRl).2.1,(hr2 _ hRl).2.2⟩) ?_
  ·
   iterate 12 (refine Rls.set ?_ (Or.inl Om) _ _)
   exact F6.rl
  ·
   with_reducible repeat first | exact Below.refl _ _ | assumption | refine bSetN ?_ Om _ | refine bExt ?_ _ | refine bAlloc ?_ _ | refine bDrewN ?_ _ | refine bDrew ?_
def RetD3 (w : World) (e : Ending) (w' : World) : Prop:=∃ (EA : OA) (en ec : Nat) (LA : OA) (ln lc : Nat) (q0 q1 q2 q3 : Int) (I : OA) (p q : Nat) (GA : OA) (gn gc : Nat) (KA : OA) (kn kc : Nat) (a b d : Int) (u : Int) (els : List El) (lims : List Int) (its : List It) (gg kk : List (List Int)),e = .returned (.tuple #[.agg #[.slice EA en ec,.slice LA ln lc,.int .i64 q0,.int .i64 q1,.int .i64 q2,.int .i64 q3],.agg #[.slice I p q,.slice GA gn gc,.slice KA kn kc,.int .i64 a,.int .i64 b,.int .i64 d],.int .i64 u]) /\ Below w.heap.size w w' /\ its.length = p /\ CodeR w' EA en LA ln els lims /\ ItsR w' I p q its /\ RdMk w' GA gn KA kn gg kk
theorem drawTotalsLine_any (w : World) (A : OA) (n c : Nat) (l : List Int) (hr : RdY w A n l) (hn : n <= 9223372036854775807) :
  Calls Tryz.prog 32 #[.slice A n c] w (RetD3 w):=by
 have hb0 : Below w.heap.size w (w.alloc zCode):=bAlloc (Below.refl _ w) zCode;have hb1 : Below w.heap.size w ((w.alloc zCode).alloc zPerf):=bAlloc hb0 zPerf;have hsz0 : ((w.alloc zCode).alloc zPerf).heap.size = w.heap.size + 2:=by simp
 have z1:=heap_alloc_new (w.alloc zCode) zPerf;rw [show (w.alloc zCode).heap.size = w.heap.size + 1 by simp] at z1;have z0:=heap_old (heap_alloc_new w zCode) (bAlloc (Below.refl _ (w.alloc zCode)) zPerf);have h0:=cx_newR (c:=c) hr hn hb1;have F0:=XW.start (bs:=[(w.heap.size + 1,zPerf),(w.heap.size,zCode)]) h0 ⟨z1,z0,trivial⟩ ⟨by rw [hsz0];dsimp only;omega,by rw [hsz0];dsimp only;omega,trivial⟩ hb1;have hsz1 : (((w.alloc zCode).alloc zPerf).alloc (.cells #[.slice A n c,.int .i64 0,.int .u64 0] 70)).heap.size = w.heap.size + 3:=by simp
 rw [hsz0] at F0;clear h0 z0 z1 hb0 hb1 hsz0;go_enter Tryz.func32,Tryz.ntmps32;simp only [zCode,zPerf] at F0 hsz1;go_wp2_with fail
 generalize ((w.alloc (oC none 0 0 none 0 0 0 0 0 0)).alloc (oP none 0 0 none 0 0 none 0 0 0 0 0)).alloc (.cells #[.slice A n c,.int .i64 0,.int .u64 0] 70) = w1 at *;refine (performance_any F0.cx Om).mono ?_;rintro e w2 ⟨EA,en,ec,LA,ln,lc,q0,q1,q2,q3,I,p,q,GA,gn,gc,KA,kn,kc,a,b,d,rfl,hp15,h2,g2,t,ht,hP2⟩;have F1:=(F0.step h2 g2).at_ (w.heap.size + 3) t (.inl Om);obtain ⟨els,lims,its,gg,kk,hil,hr2⟩:=hP2.low (show w.heap.size + 3 <= w1.heap.size + 2 by omega) (Nat.le_refl t);have F3:=(F1.box (oC EA en ec LA ln lc q0 q1 q2 q3)).box (oP I p q GA gn gc KA kn kc a b d);rw [show (w2.alloc (oC EA en ec LA ln lc q0 q1 q2 q3)).heap.size = w2.heap.size + 1 by simp] at F3;have hbx : w.heap.size + 3 <= w2.heap.size:=by have:=g2.size;omega
 clear F0 F1 hP2 h2 g2 hr;go_upto_region 3 with fail;generalize (w2.alloc (oC EA en ec LA ln lc q0 q1 q2 q3)).alloc (oP I p q GA gn gc KA kn kc a b d) = w3 at *;generalize hbe : w2.heap.size = bx at *;clear hbe
 skip
 have F4:=F3.drew;clear F3;have n1 : bx ≠ w.heap.size:=Om;have n2 : bx ≠ w.heap.size + 1:=Om;have n3 : bx + 1 ≠ w.heap.size:=Om;have n4 : bx + 1 ≠ w.heap.size + 1:=Om;have k4:=c12 F4.bk.tl.hd F4.bk.hd;have cp:=percentOf_any F4.cx Om
 go_region_held3 (fun w'=>w'.cell? ⟨bx,0,none⟩ = some (.slice EA en ec) /\ w'.cell? ⟨bx,1,none⟩ = some (.slice LA ln lc) /\ w'.cell? ⟨bx,2,none⟩ = some (.int .i64 q0) /\ w'.cell? ⟨bx,3,none⟩ = some (.int .i64 q1) /\ w'.cell? ⟨bx,4,none⟩ = some (.int .i64 q2) /\ w'.cell? ⟨bx,5,none⟩ = some (.int .i64 q3) /\ w'.cell? ⟨bx + 1,0,none⟩ = some (.slice I p q) /\ w'.cell? ⟨bx + 1,1,none⟩ = some (.slice GA gn gc) /\ w'.cell? ⟨bx + 1,2,none⟩ = some (.slice KA kn kc) /\ w'.cell? ⟨bx + 1,3,none⟩ = some (.int .i64 a) /\ w'.cell? ⟨bx + 1,4,none⟩ = some (.int .i64 b) /\ w'.cell? ⟨bx + 1,5,none⟩ = some (.int .i64 d)) (first | with_reducible exact k4 | with_reducible exact k5 | with_reducible exact k6 | with_reducible exact k7 | with_reducible exact ks1 _ _ _ _ _ _ | with_reducible exact ks2 _ _ _ _ _ _ | with_reducible exact ks3 _ _ _ _ _ _ _ _ _ _ _ _ | with_reducible exact ks4 _ _ _ _ _ _ _ _ _ _ _ _ | (trace_state;fail)) ((go_at_call 37;(with_reducible refine cp.mono ?_);rintro e w6 ⟨v,_,rfl,h6,g6⟩;have F6:=F4.step h6 g6;have k6:=c12 F6.bk.tl.hd F6.bk.hd;have ks1:=fun v0 v1 v2 v3 v4 v5=>c12 (heap_six F6.bk.tl.hd n1 v0 v1 v2 v3 v4 v5) (heap_six F6.bk.hd n3 v0 v1 v2 v3 v4 v5);have ks2:=fun v0 v1 v2 v3 v4 v5=>c12 (heap_six F6.bk.tl.hd n2 v0 v1 v2 v3 v4 v5) (heap_six F6.bk.hd n4 v0 v1 v2 v3 v4 v5);have ks3:=fun v0 v1 v2 v3 v4 v5 u0 u1 u2 u3 u4 u5=>c12 (heap_six (heap_six F6.bk.tl.hd n1 v0 v1 v2 v3 v4 v5) n2 u0 u1 u2 u3 u4 u5) (heap_six (heap_six F6.bk.hd n3 v0 v1 v2 v3 v4 v5) n4 u0 u1 u2 u3 u4 u5);have ks4:=fun v0 v1 v2 v3 v4 v5 u0 u1 u2 u3 u4 u5=>c12 (heap_six (heap_six F6.bk.tl.hd n2 v0 v1 v2 v3 v4 v5) n1 u0 u1 u2 u3 u4 u5) (heap_six (heap_six F6.bk.hd n4 v0 v1 v2 v3 v4 v5) n3 u0 u1 u2 u3 u4 u5);obtain ⟨⟨z0,z1,z2,z3,z4,z5⟩,zf0,zf1,zf2,zf3,zf4,zf5⟩:=blk6 F6.bk.tl.tl.hd;have zl:=(Array.getElem?_eq_some_iff.1 F6.bk.tl.tl.hd).1;obtain ⟨⟨y0,y1,y2,y3,y4,y5⟩,yf0,yf1,yf2,yf3,yf4,yf5⟩:=blk6 F6.bk.tl.tl.tl.hd;have yl:=(Array.getElem?_eq_some_iff.1 F6.bk.tl.tl.tl.hd).1))
 all_goals
  go_wp2;refine bodyPost_ret (v:=.tuple #[.agg #[.slice EA en ec,.slice LA ln lc,.int .i64 q0,.int .i64 q1,.int .i64 q2,.int .i64 q3],.agg #[.slice I p q,.slice GA gn gc,.slice KA kn kc,.int .i64 a,.int .i64 b,.int .i64 d],.int .i64 v]) (by simp [results,Tryz.results32,go_sem,y0,y1,y2,y3,y4,y5,z0,z1,z2,z3,z4,z5,yf0,yf1,yf2,yf3,yf4,yf5,zf0,zf1,zf2,zf3,zf4,zf5,yl,zl]) rfl ?_;have hB:=F6.cx.bel;refine (fun (hRl : Rls (w.heap.size + 3) t w2 _)=>⟨EA,en,ec,LA,ln,lc,q0,q1,q2,q3,I,p,q,GA,gn,gc,KA,kn,kc,a,b,d,v,els,lims,its,gg,kk,rfl,?_,hil,(hr2 _ hRl).1,(hr2 _ hRl).2.1,(hr2 _ hRl).2.2⟩) ?_
  ·
   iterate 12 (refine Rls.set ?_ (Or.inl Om) _ _)
   exact F6.rl
  ·
   with_reducible repeat first | exact Below.refl _ _ | assumption | refine bSetN ?_ Om _ | refine bExt ?_ _ | refine bAlloc ?_ _ | refine bDrewN ?_ _ | refine bDrew ?_
theorem drawItemLine_any (w : World) (A : OA) (n c : Nat) (l : List Int) (hr : RdY w A n l) (hn : n <= 9223372036854775807) :
  Calls Tryz.prog 29 #[.slice A n c] w (RetD3 w):=by
 have hb0 : Below w.heap.size w (w.alloc zCode):=bAlloc (Below.refl _ w) zCode;have hb1 : Below w.heap.size w ((w.alloc zCode).alloc zPerf):=bAlloc hb0 zPerf;have hsz0 : ((w.alloc zCode).alloc zPerf).heap.size = w.heap.size + 2:=by simp
 have z1:=heap_alloc_new (w.alloc zCode) zPerf;rw [show (w.alloc zCode).heap.size = w.heap.size + 1 by simp] at z1;have z0:=heap_old (heap_alloc_new w zCode) (bAlloc (Below.refl _ (w.alloc zCode)) zPerf);have h0:=cx_newR (c:=c) hr hn hb1;have F0:=XW.start (bs:=[(w.heap.size + 1,zPerf),(w.heap.size,zCode)]) h0 ⟨z1,z0,trivial⟩ ⟨by rw [hsz0];dsimp only;omega,by rw [hsz0];dsimp only;omega,trivial⟩ hb1;have hsz1 : (((w.alloc zCode).alloc zPerf).alloc (.cells #[.slice A n c,.int .i64 0,.int .u64 0] 70)).heap.size = w.heap.size + 3:=by simp
 rw [hsz0] at F0;clear h0 z0 z1 hb0 hb1 hsz0;go_enter Tryz.func29,Tryz.ntmps29;simp only [zCode,zPerf] at F0 hsz1;go_wp2_with fail
 generalize ((w.alloc (oC none 0 0 none 0 0 0 0 0 0)).alloc (oP none 0 0 none 0 0 none 0 0 0 0 0)).alloc (.cells #[.slice A n c,.int .i64 0,.int .u64 0] 70) = w1 at *;refine (performance_any F0.cx Om).mono ?_;rintro e w2 ⟨EA,en,ec,LA,ln,lc,q0,q1,q2,q3,I,p,q,GA,gn,gc,KA,kn,kc,a,b,d,rfl,hp15,h2,g2,t,ht,hP2⟩;have F1:=(F0.step h2 g2).at_ (w.heap.size + 3) t (.inl Om);obtain ⟨els,lims,its,gg,kk,hil,hr2⟩:=hP2.low (show w.heap.size + 3 <= w1.heap.size + 2 by omega) (Nat.le_refl t);have F3:=(F1.box (oC EA en ec LA ln lc q0 q1 q2 q3)).box (oP I p q GA gn gc KA kn kc a b d);rw [show (w2.alloc (oC EA en ec LA ln lc q0 q1 q2 q3)).heap.size = w2.heap.size + 1 by simp] at F3;have hbx : w.heap.size + 3 <= w2.heap.size:=by have:=g2.size;omega
 clear F0 F1 hP2 h2 g2 hr;go_upto_region 3 with fail;generalize (w2.alloc (oC EA en ec LA ln lc q0 q1 q2 q3)).alloc (oP I p q GA gn gc KA kn kc a b d) = w3 at *;generalize hbe : w2.heap.size = bx at *;clear hbe
 skip
 have F4:=F3.drew;clear F3;have n1 : bx ≠ w.heap.size:=Om;have n2 : bx ≠ w.heap.size + 1:=Om;have n3 : bx + 1 ≠ w.heap.size:=Om;have n4 : bx + 1 ≠ w.heap.size + 1:=Om;have k4:=c12 F4.bk.tl.hd F4.bk.hd;have cp:=pick_cx F4.cx 16 Om Om Om
 go_region_held3 (fun w'=>w'.cell? ⟨bx,0,none⟩ = some (.slice EA en ec) /\ w'.cell? ⟨bx,1,none⟩ = some (.slice LA ln lc) /\ w'.cell? ⟨bx,2,none⟩ = some (.int .i64 q0) /\ w'.cell? ⟨bx,3,none⟩ = some (.int .i64 q1) /\ w'.cell? ⟨bx,4,none⟩ = some (.int .i64 q2) /\ w'.cell? ⟨bx,5,none⟩ = some (.int .i64 q3) /\ w'.cell? ⟨bx + 1,0,none⟩ = some (.slice I p q) /\ w'.cell? ⟨bx + 1,1,none⟩ = some (.slice GA gn gc) /\ w'.cell? ⟨bx + 1,2,none⟩ = some (.slice KA kn kc) /\ w'.cell? ⟨bx + 1,3,none⟩ = some (.int .i64 a) /\ w'.cell? ⟨bx + 1,4,none⟩ = some (.int .i64 b) /\ w'.cell? ⟨bx + 1,5,none⟩ = some (.int .i64 d)) (first | with_reducible exact k4 | with_reducible exact k5 | with_reducible exact k6 | with_reducible exact k7 | with_reducible exact ks1 _ _ _ _ _ _ | with_reducible exact ks2 _ _ _ _ _ _ | with_reducible exact ks3 _ _ _ _ _ _ _ _ _ _ _ _ | with_reducible exact ks4 _ _ _ _ _ _ _ _ _ _ _ _ | (trace_state;fail)) (first | (go_at_call 56;(with_reducible refine cp.mono ?_);intro e w5 hp;obtain ⟨v5,⟨hu0,hu1⟩,rfl,h5,g5⟩:=F4.cx.pick hp;have F5:=F4.step h5 g5;have k5:=c12 F5.bk.tl.hd F5.bk.hd;clear cp;have cp2:=pick_all F5.cx ((p : Int) + v5 / 15) Om Om;have e15 : IntKind.i64.wrap (v5.tdiv 15) = v5 / 15:=(by rw [Int.tdiv_eq_ediv_of_nonneg hu0];exact IntWalk.i64_in _ Om);have ew : IntKind.i64.wrap ((p : Int) + v5 / 15) = (p : Int) + v5 / 15:=IntWalk.i64_in _ Om) | (go_at_call 56;(with_reducible refine cp2.mono ?_);rintro e w6 ⟨v6,⟨hx0,hx1⟩,rfl,h6,g6⟩;have F6:=F5.step h6 g6;have k6:=c12 F6.bk.tl.hd F6.bk.hd;clear cp2;have cp3:=pick_cx F6.cx 24 Om Om Om) | (go_at_call 56;(with_reducible refine cp3.mono ?_);intro e w7 hp;obtain ⟨v7,⟨hy0,hy1⟩,rfl,h7,g7⟩:=F6.cx.pick hp;have e23 : IntKind.i64.wrap (v7.tdiv 23) = v7 / 23:=(by rw [Int.tdiv_eq_ediv_of_nonneg hy0];exact IntWalk.i64_in _ Om);have ewf : IntKind.i64.wrap (v6 - v7 / 23) = v6 - v7 / 23:=IntWalk.i64_in _ Om;have F7:=F6.step h7 g7;have k7:=c12 F7.bk.tl.hd F7.bk.hd;have ks1:=fun v0 v1 v2 v3 v4 v5=>c12 (heap_six F7.bk.tl.hd n1 v0 v1 v2 v3 v4 v5) (heap_six F7.bk.hd n3 v0 v1 v2 v3 v4 v5);have ks2:=fun v0 v1 v2 v3 v4 v5=>c12 (heap_six F7.bk.tl.hd n2 v0 v1 v2 v3 v4 v5) (heap_six F7.bk.hd n4 v0 v1 v2 v3 v4 v5);have ks3:=fun v0 v1 v2 v3 v4 v5 u0 u1 u2 u3 u4 u5=>c12 (heap_six (heap_six F7.bk.tl.hd n1 v0 v1 v2 v3 v4 v5) n2 u0 u1 u2 u3 u4 u5) (heap_six (heap_six F7.bk.hd n3 v0 v1 v2 v3 v4 v5) n4 u0 u1 u2 u3 u4 u5);have ks4:=fun v0 v1 v2 v3 v4 v5 u0 u1 u2 u3 u4 u5=>c12 (heap_six (heap_six F7.bk.tl.hd n2 v0 v1 v2 v3 v4 v5) n1 u0 u1 u2 u3 u4 u5) (heap_six (heap_six F7.bk.hd n4 v0 v1 v2 v3 v4 v5) n3 u0 u1 u2 u3 u4 u5);obtain ⟨⟨z0,z1,z2,z3,z4,z5⟩,zf0,zf1,zf2,zf3,zf4,zf5⟩:=blk6 F7.bk.tl.tl.hd;have zl:=(Array.getElem?_eq_some_iff.1 F7.bk.tl.tl.hd).1;obtain ⟨⟨y0,y1,y2,y3,y4,y5⟩,yf0,yf1,yf2,yf3,yf4,yf5⟩:=blk6 F7.bk.tl.tl.tl.hd;have yl:=(Array.getElem?_eq_some_iff.1 F7.bk.tl.tl.tl.hd).1))
 all_goals
  go_wp2;refine bodyPost_ret (v:=.tuple #[.agg #[.slice EA en ec,.slice LA ln lc,.int .i64 q0,.int .i64 q1,.int .i64 q2,.int .i64 q3],.agg #[.slice I p q,.slice GA gn gc,.slice KA kn kc,.int .i64 a,.int .i64 b,.int .i64 d],.int .i64 (v6 - v7 / 23)]) (by simp [results,Tryz.results29,go_sem,y0,y1,y2,y3,y4,y5,z0,z1,z2,z3,z4,z5,yf0,yf1,yf2,yf3,yf4,yf5,zf0,zf1,zf2,zf3,zf4,zf5,yl,zl]) rfl ?_;have hB:=F7.cx.bel;refine (fun (hRl : Rls (w.heap.size + 3) t w2 _)=>⟨EA,en,ec,LA,ln,lc,q0,q1,q2,q3,I,p,q,GA,gn,gc,KA,kn,kc,a,b,d,_,els,lims,its,gg,kk,rfl,?_,hil,(hr2 _ hRl).1,(hr2 _ hRl).2.1,(hr2 _ hRl).2.2⟩) ?_
  ·
   iterate 12 (refine Rls.set ?_ (Or.inl Om) _ _)
   exact F7.rl
  ·
   with_reducible repeat first | exact Below.refl _ _ | assumption | refine bSetN ?_ Om _ | refine bExt ?_ _ | refine bAlloc ?_ _ | refine bDrewN ?_ _ | refine bDrew ?_
def RetDT (w : World) (e : Ending) (w' : World) : Prop:=∃ (EA : OA) (en ec : Nat) (LA : OA) (ln lc : Nat) (q0 q1 q2 q3 : Int) (s : ByteArray) (els : List El) (lims : List Int),e = .returned (.tuple #[.agg #[.slice EA en ec,.slice LA ln lc,.int .i64 q0,.int .i64 q1,.int .i64 q2,.int .i64 q3],.string s]) /\ s.size <= 5000 /\ Below w.heap.size w w' /\ CodeR w' EA en LA ln els lims
theorem drawReadProtocol_any (w : World) (A : OA) (n c : Nat) (l : List Int) (hr : RdY w A n l) (hn : n <= 9223372036854775807) :
  Calls Tryz.prog 15 #[.slice A n c] w (RetDT w):=by
 have hb1 : Below w.heap.size w (w.alloc zCode):=bAlloc (Below.refl _ w) zCode;have hsz0 : (w.alloc zCode).heap.size = w.heap.size + 1:=by simp
 have z0:=heap_alloc_new w zCode;have h0:=cx_newR (c:=c) hr hn hb1;have F0:=XW.start (bs:=[(w.heap.size,zCode)]) h0 ⟨z0,trivial⟩ ⟨by rw [hsz0];dsimp only;omega,trivial⟩ hb1;have hsz1 : ((w.alloc zCode).alloc (.cells #[.slice A n c,.int .i64 0,.int .u64 0] 70)).heap.size = w.heap.size + 2:=by simp
 rw [hsz0] at F0;clear h0 z0 hb1 hsz0;go_enter Tryz.func15,Tryz.ntmps15;simp only [zCode] at F0 hsz1;go_wp2_with fail
 generalize (w.alloc (oC none 0 0 none 0 0 0 0 0 0)).alloc (.cells #[.slice A n c,.int .i64 0,.int .u64 0] 70) = w1 at *;refine (protocol_any F0.cx Om).mono ?_;rintro e w2 ⟨EA,en,ec,LA,ln,lc,q0,q1,q2,q3,s,rfl,hs,h2,g2,t,ht,hC2⟩;have F1:=(F0.step h2 g2).at_ (w.heap.size + 2) t (.inl Om);obtain ⟨els,lims,hr2⟩:=hC2.low (show w.heap.size + 2 <= w1.heap.size + 1 by omega) (Nat.le_refl t);clear F0 hC2 h2 g2 hr;obtain ⟨⟨y0,y1,y2,y3,y4,y5⟩,yf0,yf1,yf2,yf3,yf4,yf5⟩:=blk6 F1.bk.hd;have yl:=(Array.getElem?_eq_some_iff.1 F1.bk.hd).1
 all_goals
  go_wp2;refine bodyPost_ret (v:=.tuple #[.agg #[.slice EA en ec,.slice LA ln lc,.int .i64 q0,.int .i64 q1,.int .i64 q2,.int .i64 q3],.string s]) (by simp [results,Tryz.results15,go_sem,y0,y1,y2,y3,y4,y5,yf0,yf1,yf2,yf3,yf4,yf5,yl]) rfl ?_;have hB:=F1.cx.bel;refine (fun (hRl : Rls (w.heap.size + 2) t w2 _)=>⟨EA,en,ec,LA,ln,lc,q0,q1,q2,q3,s,els,lims,rfl,hs,?_,hr2 _ hRl⟩) ?_
  ·
   skip
   iterate 6 (refine Rls.set ?_ (Or.inl Om) _ _)
   exact F1.rl
  ·
   with_reducible repeat first | exact Below.refl _ _ | assumption | refine bSetN ?_ Om _ | refine bExt ?_ _ | refine bAlloc ?_ _ | refine bDrewN ?_ _ | refine bDrew ?_
def RetDN (w : World) (e : Ending) (w' : World) : Prop:=∃ (EA : OA) (en ec : Nat) (LA : OA) (ln lc : Nat) (q0 q1 q2 q3 : Int) (s : ByteArray) (u : Int) (els : List El) (lims : List Int),e = .returned (.tuple #[.agg #[.slice EA en ec,.slice LA ln lc,.int .i64 q0,.int .i64 q1,.int .i64 q2,.int .i64 q3],.string s,.int .i64 u]) /\ s.size <= 5000 /\ Below w.heap.size w w' /\ CodeR w' EA en LA ln els lims
theorem drawRenumbered_any (w : World) (A : OA) (n c : Nat) (l : List Int) (hr : RdY w A n l) (hn : n <= 9223372036854775807) :
  Calls Tryz.prog 19 #[.slice A n c] w (RetDN w):=by
 have hb1 : Below w.heap.size w (w.alloc zCode):=bAlloc (Below.refl _ w) zCode;have hsz0 : (w.alloc zCode).heap.size = w.heap.size + 1:=by simp
 have z0:=heap_alloc_new w zCode;have h0:=cx_newR (c:=c) hr hn hb1;have F0:=XW.start (bs:=[(w.heap.size,zCode)]) h0 ⟨z0,trivial⟩ ⟨by rw [hsz0];dsimp only;omega,trivial⟩ hb1;have hsz1 : ((w.alloc zCode).alloc (.cells #[.slice A n c,.int .i64 0,.int .u64 0] 70)).heap.size = w.heap.size + 2:=by simp
 rw [hsz0] at F0;clear h0 z0 hb1 hsz0;go_enter Tryz.func19,Tryz.ntmps19;simp only [zCode] at F0 hsz1;go_wp2_with fail
 generalize (w.alloc (oC none 0 0 none 0 0 0 0 0 0)).alloc (.cells #[.slice A n c,.int .i64 0,.int .u64 0] 70) = w1 at *;refine (protocol_any F0.cx Om).mono ?_;rintro e w2 ⟨EA,en,ec,LA,ln,lc,q0,q1,q2,q3,s,rfl,hs,h2,g2,t,ht,hC2⟩;have F1:=(F0.step h2 g2).at_ (w.heap.size + 2) t (.inl Om);obtain ⟨els,lims,hr2⟩:=hC2.low (show w.heap.size + 2 <= w1.heap.size + 1 by omega) (Nat.le_refl t);have F3:=F1.box (oC EA en ec LA ln lc q0 q1 q2 q3);have hbx : w.heap.size + 2 <= w2.heap.size:=by have:=g2.size;omega
 clear F0 F1 hC2 h2 g2 hr;go_upto_region 3 with fail;generalize w2.alloc (oC EA en ec LA ln lc q0 q1 q2 q3) = w3 at *;generalize hbe : w2.heap.size = bx at *;clear hbe
 skip
 have F4:=F3.drew;clear F3;have n1 : bx ≠ w.heap.size:=Om;have k4:=c6 F4.bk.hd;have cn:=number_any F4.cx Om
 go_region_held3 (fun w'=>w'.cell? ⟨bx,0,none⟩ = some (.slice EA en ec) /\ w'.cell? ⟨bx,1,none⟩ = some (.slice LA ln lc) /\ w'.cell? ⟨bx,2,none⟩ = some (.int .i64 q0) /\ w'.cell? ⟨bx,3,none⟩ = some (.int .i64 q1) /\ w'.cell? ⟨bx,4,none⟩ = some (.int .i64 q2) /\ w'.cell? ⟨bx,5,none⟩ = some (.int .i64 q3)) (first | with_reducible exact k4 | with_reducible exact k5 | with_reducible exact ks _ _ _ _ _ _ | (trace_state;fail)) ((go_at_call 36;(with_reducible refine cn.mono ?_);rintro e w5 ⟨u,rfl,h5,g5⟩;have F5:=F4.step h5 g5;have k5:=c6 F5.bk.hd;have ks:=fun v0 v1 v2 v3 v4 v5=>c6 (heap_six F5.bk.hd n1 v0 v1 v2 v3 v4 v5);obtain ⟨⟨y0,y1,y2,y3,y4,y5⟩,yf0,yf1,yf2,yf3,yf4,yf5⟩:=blk6 F5.bk.tl.hd;have yl:=(Array.getElem?_eq_some_iff.1 F5.bk.tl.hd).1))
 all_goals
  go_wp2;refine bodyPost_ret (v:=.tuple #[.agg #[.slice EA en ec,.slice LA ln lc,.int .i64 q0,.int .i64 q1,.int .i64 q2,.int .i64 q3],.string s,.int .i64 u]) (by simp [results,Tryz.results19,go_sem,y0,y1,y2,y3,y4,y5,yf0,yf1,yf2,yf3,yf4,yf5,yl]) rfl ?_;have hB:=F5.cx.bel;refine (fun (hRl : Rls (w.heap.size + 2) t w2 _)=>⟨EA,en,ec,LA,ln,lc,q0,q1,q2,q3,s,u,els,lims,rfl,hs,?_,hr2 _ hRl⟩) ?_
  ·
   skip
   iterate 6 (refine Rls.set ?_ (Or.inl Om) _ _)
   exact F5.rl
  ·
   with_reducible repeat first | exact Below.refl _ _ | assumption | refine bSetN ?_ Om _ | refine bExt ?_ _ | refine bAlloc ?_ _ | refine bDrewN ?_ _ | refine bDrew ?_
def RetDR (w : World) (e : Ending) (w' : World) : Prop:=∃ (EA : OA) (en ec : Nat) (LA : OA) (ln lc : Nat) (q0 q1 q2 q3 : Int) (s : ByteArray) (u v z : Int) (els : List El) (lims : List Int),e = .returned (.tuple #[.agg #[.slice EA en ec,.slice LA ln lc,.int .i64 q0,.int .i64 q1,.int .i64 q2,.int .i64 q3],.string s,.int .i64 u,.int .i64 v,.int .i64 z]) /\ s.size <= 5000 /\ Below w.heap.size w w' /\ CodeR w' EA en LA ln els lims
theorem drawRecallProtocol_any (w : World) (A : OA) (n c : Nat) (l : List Int) (hr : RdY w A n l) (hn : n <= 9223372036854775807) :
  Calls Tryz.prog 25 #[.slice A n c] w (RetDR w):=by
 have hb1 : Below w.heap.size w (w.alloc zCode):=bAlloc (Below.refl _ w) zCode;have hsz0 : (w.alloc zCode).heap.size = w.heap.size + 1:=by simp
 have z0:=heap_alloc_new w zCode;have h0:=cx_newR (c:=c) hr hn hb1;have F0:=XW.start (bs:=[(w.heap.size,zCode)]) h0 ⟨z0,trivial⟩ ⟨by rw [hsz0];dsimp only;omega,trivial⟩ hb1;have hsz1 : ((w.alloc zCode).alloc (.cells #[.slice A n c,.int .i64 0,.int .u64 0] 70)).heap.size = w.heap.size + 2:=by simp
 rw [hsz0] at F0;clear h0 z0 hb1 hsz0;go_enter Tryz.func25,Tryz.ntmps25;simp only [zCode] at F0 hsz1;go_wp2_with fail
 generalize (w.alloc (oC none 0 0 none 0 0 0 0 0 0)).alloc (.cells #[.slice A n c,.int .i64 0,.int .u64 0] 70) = w1 at *;refine (protocol_any F0.cx Om).mono ?_;rintro e w2 ⟨EA,en,ec,LA,ln,lc,q0,q1,q2,q3,s,rfl,hs,h2,g2,t,ht,hC2⟩;have F1:=(F0.step h2 g2).at_ (w.heap.size + 2) t (.inl Om);obtain ⟨els,lims,hr2⟩:=hC2.low (show w.heap.size + 2 <= w1.heap.size + 1 by omega) (Nat.le_refl t);have F3:=F1.box (oC EA en ec LA ln lc q0 q1 q2 q3);have hbx : w.heap.size + 2 <= w2.heap.size:=by have:=g2.size;omega
 clear F0 F1 hC2 h2 g2 hr;go_upto_region 3 with fail;generalize w2.alloc (oC EA en ec LA ln lc q0 q1 q2 q3) = w3 at *;generalize hbe : w2.heap.size = bx at *;clear hbe
 skip
 have F4:=F3.drew;clear F3;have n1 : bx ≠ w.heap.size:=Om;have k4:=c6 F4.bk.hd;have cp5:=pick_cx F4.cx 5 Om Om Om
 go_region_held3 (fun w'=>w'.cell? ⟨bx,0,none⟩ = some (.slice EA en ec) /\ w'.cell? ⟨bx,1,none⟩ = some (.slice LA ln lc) /\ w'.cell? ⟨bx,2,none⟩ = some (.int .i64 q0) /\ w'.cell? ⟨bx,3,none⟩ = some (.int .i64 q1) /\ w'.cell? ⟨bx,4,none⟩ = some (.int .i64 q2) /\ w'.cell? ⟨bx,5,none⟩ = some (.int .i64 q3)) (first | with_reducible exact k4 | with_reducible exact k5 | with_reducible exact k6 | with_reducible exact k7 | with_reducible exact k8 | with_reducible exact k9 | with_reducible exact k10 | with_reducible exact ks _ _ _ _ _ _ | (trace_state;fail)) (first | (go_at_call 56;(with_reducible refine cp5.mono ?_);intro e w5 hp;obtain ⟨v5,⟨ha5,hb5⟩,rfl,h5,g5⟩:=F4.cx.pick hp;have F5:=F4.step h5 g5;clear cp5;have k5:=c6 F5.bk.hd;have cp6:=pick_cx F5.cx 24 Om Om Om) | (go_at_call 56;(with_reducible refine cp6.mono ?_);intro e w6 hp;obtain ⟨v6,⟨ha6,hb6⟩,rfl,h6,g6⟩:=F5.cx.pick hp;have F6:=F5.step h6 g6;clear cp6;have k6:=c6 F6.bk.hd;have e6 : IntKind.i64.wrap (v6.tdiv 23) = v6 / 23:=(by rw [Int.tdiv_eq_ediv_of_nonneg ha6];exact IntWalk.i64_in _ Om);have d6 : IntKind.i64.wrap (v5 - v6 / 23) = v5 - v6 / 23:=IntWalk.i64_in _ Om;have cp7:=pick_cx F6.cx 3 Om Om Om) | (go_at_call 56;(with_reducible refine cp7.mono ?_);intro e w7 hp;obtain ⟨v7,⟨ha7,hb7⟩,rfl,h7,g7⟩:=F6.cx.pick hp;have F7:=F6.step h7 g7;clear cp7;have k7:=c6 F7.bk.hd;have cp8:=pick_cx F7.cx 24 Om Om Om) | (go_at_call 56;(with_reducible refine cp8.mono ?_);intro e w8 hp;obtain ⟨v8,⟨ha8,hb8⟩,rfl,h8,g8⟩:=F7.cx.pick hp;have F8:=F7.step h8 g8;clear cp8;have k8:=c6 F8.bk.hd;have e8 : IntKind.i64.wrap (v8.tdiv 23) = v8 / 23:=(by rw [Int.tdiv_eq_ediv_of_nonneg ha8];exact IntWalk.i64_in _ Om);have d8 : IntKind.i64.wrap (v7 - v8 / 23) = v7 - v8 / 23:=IntWalk.i64_in _ Om;have cp9:=pick_cx F8.cx 5 Om Om Om) | (go_at_call 56;(with_reducible refine cp9.mono ?_);intro e w9 hp;obtain ⟨v9,⟨ha9,hb9⟩,rfl,h9,g9⟩:=F8.cx.pick hp;have F9:=F8.step h9 g9;clear cp9;have k9:=c6 F9.bk.hd;have cp10:=pick_cx F9.cx 24 Om Om Om) | (go_at_call 56;(with_reducible refine cp10.mono ?_);intro e w10 hp;obtain ⟨v10,⟨ha10,hb10⟩,rfl,h10,g10⟩:=F9.cx.pick hp;have F10:=F9.step h10 g10;clear cp10;have k10:=c6 F10.bk.hd;have e10 : IntKind.i64.wrap (v10.tdiv 23) = v10 / 23:=(by rw [Int.tdiv_eq_ediv_of_nonneg ha10];exact IntWalk.i64_in _ Om);have d10 : IntKind.i64.wrap (v9 - v10 / 23) = v9 - v10 / 23:=IntWalk.i64_in _ Om;have ks:=fun v0 v1 v2 v3 v4 v5=>c6 (heap_six F10.bk.hd n1 v0 v1 v2 v3 v4 v5);obtain ⟨⟨y0,y1,y2,y3,y4,y5⟩,yf0,yf1,yf2,yf3,yf4,yf5⟩:=blk6 F10.bk.tl.hd;have yl:=(Array.getElem?_eq_some_iff.1 F10.bk.tl.hd).1))
 all_goals
  go_wp2;refine bodyPost_ret (v:=.tuple #[.agg #[.slice EA en ec,.slice LA ln lc,.int .i64 q0,.int .i64 q1,.int .i64 q2,.int .i64 q3],.string s,.int .i64 (v5 - v6 / 23),.int .i64 (v7 - v8 / 23),.int .i64 (v9 - v10 / 23)]) (by simp [results,Tryz.results25,go_sem,y0,y1,y2,y3,y4,y5,yf0,yf1,yf2,yf3,yf4,yf5,yl]) rfl ?_;have hB:=F10.cx.bel;refine (fun (hRl : Rls (w.heap.size + 2) t w2 _)=>⟨EA,en,ec,LA,ln,lc,q0,q1,q2,q3,s,_,_,_,els,lims,rfl,hs,?_,hr2 _ hRl⟩) ?_
  ·
   skip
   iterate 6 (refine Rls.set ?_ (Or.inl Om) _ _)
   exact F10.rl
  ·
   with_reducible repeat first | exact Below.refl _ _ | assumption | refine bSetN ?_ Om _ | refine bExt ?_ _ | refine bAlloc ?_ _ | refine bDrewN ?_ _ | refine bDrew ?_
def RetDD (w : World) (e : Ending) (w' : World) : Prop:=∃ s u : ByteArray,e = .returned (.tuple #[.string s,.string u]) /\ (s.size <= 5002 /\ u.size <= 5002) /\ Below w.heap.size w w'
theorem drawDifferLines_any (w : World) (A : OA) (n c : Nat) (l : List Int) (hr : RdY w A n l) (hn : n <= 9223372036854775807) :
  Calls Tryz.prog 28 #[.slice A n c] w (RetDD w):=by
 have h0:=cx_newR (c:=c) hr hn (Below.refl _ w);have F0:=XW.start (bs:=[]) h0 trivial trivial (Below.refl _ w);clear h0;go_enter Tryz.func28,Tryz.ntmps28;go_wp2_with fail
 refine (protocol_any F0.cx Om).mono ?_;rintro e w2 ⟨EA,en,ec,LA,ln,lc,q0,q1,q2,q3,s,rfl,hs,h2,g2,t,ht,hC2⟩;have F1:=(F0.step h2 g2).below (bAlloc (Below.refl _ w2) (oC EA en ec LA ln lc q0 q1 q2 q3));clear F0 hC2 h2 g2 hr;go_wp2_with fail
 generalize w2.alloc (oC EA en ec LA ln lc q0 q1 q2 q3) = w3 at *;refine (one_cx F1.cx 3 Om Om Om).mono ?_;rintro e w4 ⟨bo,rfl,hC4,g4⟩;have F4:=F1.step (F1.cx.grow hC4 g4) g4;clear F1 hC4 g4
 cases bo
 ·
  go_wp2_with fail
  refine (spoilt_any F4.cx Om s ⟨#[48,49,32,10]⟩ Om (by decide) (by decide)).mono ?_;rintro e w5 ⟨u,rfl,hu,h5,g5⟩;go_wp2;go_ret2;exact ⟨s,u,rfl,⟨Om,Om⟩,h5.bel⟩
 ·
  go_wp2_with fail
  refine (protocol_any F4.cx Om).mono ?_;rintro e w5 ⟨EB,fn,fc,LB,mn,mc,r0,r1,r2,r3,u,rfl,hu,h5,g5,t5,ht5,hC5⟩;go_wp2;go_ret2;have hB:=h5.bel;exact ⟨s,u,rfl,⟨Om,Om⟩,by repeat (first | with_reducible exact Below.refl _ _ | with_reducible assumption | with_reducible refine bSetN ?_ Om _ | with_reducible refine bExt ?_ _ | with_reducible refine bAlloc ?_ _ | with_reducible refine bDrewN ?_ _ | with_reducible refine bDrew ?_)⟩
end Go.Proofs.YtlfhhkgleapamaaGreatDoor
