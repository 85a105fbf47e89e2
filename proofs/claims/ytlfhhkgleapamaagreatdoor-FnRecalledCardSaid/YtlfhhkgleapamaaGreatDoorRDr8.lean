/- Drawn programmes: any programme. Conditions: none. -/
import Derived.Test.YtlfhhkgleapamaaGreatDoorRDr67
set_option linter.unusedVariables false
set_option linter.unusedSimpArgs false
set_option maxRecDepth 100000
set_option maxHeartbeats 16000000
namespace Go.Proofs.YtlfhhkgleapamaaGreatDoor
open Go.RowKit
section
variable {base bx z : Nat} {κ : Kf} {W : World} {EA : OA} {en ec : Nat} {LA : OA} {ln lc : Nat} {q0 q1 q2 q3 : Int}
theorem CX.setRow (C : CX base κ W bx EA en ec LA ln lc q0 q1 q2 q3) (hk : (κ z).1 ≠ 0) (j : Nat) (v : Value) : CX base κ (W.setCell ⟨z,j,none⟩ v) bx EA en ec LA ln lc q0 q1 q2 q3:=C.row (gSetM W z j v) (fun e=>by injection e with e;subst e;exact hk C.kx)
theorem CX.setO (C : CX base κ W bx EA en ec LA ln lc q0 q1 q2 q3) (hz : z ≠ bx) (j : Nat) (v : Value) : CX base κ (W.setCell ⟨z,j,none⟩ v) bx EA en ec LA ln lc q0 q1 q2 q3:=C.row (gSetM W z j v) (fun e=>by injection e with e;exact hz e)
theorem CX.setQ (C : CX base κ W bx EA en ec LA ln lc q0 q1 q2 q3) (v : Int) : CX base κ (W.setCell ⟨bx,2,none⟩ (.int .i64 v)) bx EA en ec LA ln lc v q1 q2 q3:=⟨set6_2 C.hx,C.hr,C.kx,C.sE,C.sL⟩
end
section
variable {base base' m n c p d r j : Nat} {xs : List Value} {κ : Kf} {W : World} {I J : OA}
theorem ItC.one (h : ItC κ m xs j) : ∀ i,j * 3 <= i -> i < j * 3 + 3 -> ∀ u,xs[i]? = some u -> u.oneCell' = true:=fun i h1 h2 u hu=>by
 obtain ⟨NA,nn,nc,MA,mn,mc,lt,r1,r2,r3,_⟩:=h
 rcases (show i = j * 3 ∨ i = j * 3 + 1 ∨ i = j * 3 + 2 by omega) with rfl | rfl | rfl
 ·
  rw [r1] at hu;injection hu with hu;subst hu;rfl
 ·
  rw [r2] at hu;injection hu with hu;subst hu;rfl
 ·
  rw [r3] at hu;injection hu with hu;subst hu;rfl
theorem OL.app (hT : Th base κ W) (h : OL base κ m W I n c) (h2 : OL base' κ m W J p d) (hr : r <= p) : ∃ xs ys,Ow 61 3 base W I n c xs /\ Rd 3 W J r ys /\ (∀ u ∈ ys,u.oneCell' = true) /\ ∀ (I' : OA) (c' : Nat) (w' : World),Ow 61 3 base w' I' (n + r) c' (xs ++ ys) -> W.grownBy w' (blkOf I) -> (blkOf I' = blkOf I ∨ blkOf I' = some W.heap.size) -> Th base κ w' /\ OL base κ m w' I' (n + r) c':=by
 obtain ⟨xs,q1,q2,q3⟩:=h;obtain ⟨ys,r1,r2,r3⟩:=h2;have hl:=r1.len;have hlx:=q1.len;have htk : ∀ i,i < r * 3 -> (ys.take (r * 3))[i]? = ys[i]?:=fun i hi=>List.getElem?_take_of_lt hi
 refine ⟨xs,ys.take (r * 3),q1,⟨by rw [List.length_take];omega,fun hr0=>?_⟩,fun u hu=>?_,fun I' c' w' ho hg hd=>⟨hT.row hg q2,_,ho,fun b e=>?_,fun j hj=>?_⟩⟩
 ·
  obtain ⟨b,off,e,hlt,hc⟩:=r1.rd.2 Om;refine ⟨b,off,e,hlt,fun j u hu=>hc j u ?_⟩;have hj:=(List.getElem?_eq_some_iff.1 hu).1;rw [List.length_take] at hj;rw [htk j Om] at hu;exact hu
 ·
  obtain ⟨i,hi⟩:=List.getElem?_of_mem hu;have hj:=(List.getElem?_eq_some_iff.1 hi).1;rw [List.length_take] at hj;rw [htk i Om] at hi;exact ItC.one (r3 (i / 3) Om) i Om Om u hi
 ·
  rcases hd with hd | hd
  ·
   exact q2 b (hd ▸ e)
  ·
   rw [hd] at e;injection e with e;subst e;exact hT.new_ (Nat.le_refl _)
 ·
  by_cases hjn : j < n
  ·
   obtain ⟨NA,nn,nc,MA,mn,mc,lt,s1,s2,s3,s4⟩:=q3 j hjn;refine ⟨NA,nn,nc,MA,mn,mc,lt,?_,?_,?_,s4⟩
   ·
    rw [List.getElem?_append_left Om];exact s1
   ·
    rw [List.getElem?_append_left Om];exact s2
   ·
    rw [List.getElem?_append_left Om];exact s3
  ·
   obtain ⟨NA,nn,nc,MA,mn,mc,lt,s1,s2,s3,s4⟩:=r3 (j - n) Om;refine ⟨NA,nn,nc,MA,mn,mc,lt,?_,?_,?_,s4⟩
   ·
    rw [List.getElem?_append_right Om,hlx,show j * 3 - n * 3 = (j - n) * 3 by omega,htk _ Om];exact s1
   ·
    rw [List.getElem?_append_right Om,hlx,show j * 3 + 1 - n * 3 = (j - n) * 3 + 1 by omega,htk _ Om];exact s2
   ·
    rw [List.getElem?_append_right Om,hlx,show j * 3 + 2 - n * 3 = (j - n) * 3 + 2 by omega,htk _ Om];exact s3
end
theorem newT2 (w : World) (s t : ByteArray) : RdT (w.alloc (.cells #[.string s,.string t] 9)) (some ⟨w.heap.size,0,none⟩) 2 [s,t]:=(OwT.lit_ (R:=w) (Below.refl _ w) [s,t] (by simp [maxLen]) #[.string s,.string t] rfl).rd
def SP (R w W : World) (g bx : Nat) (A : OA) (n c k : Nat) (l : List Int) (s : Value) : Prop:=∃ κ EA en ec LA ln lc q0 q1 q2 q3 I p q,s = .slice I p q /\ LS R w W g A n c k l κ 0 I p q /\ CX w.heap.size κ W bx EA en ec LA ln lc q0 q1 q2 q3 /\ p <= 20
theorem anyProgramme_any {R w : World} {g n c k : Nat} {A : OA} {l : List Int} (h : Cx R w g A n c k l) (hk : k <= 500000) :
  Calls Tryz.prog 122 #[.pointer (some ⟨g,0,none⟩)] w (RetPr R w g A n c (k + 5000) l 0 20 0 0):=by
 have hgl:=h.cur.lt;have h0:=h.below (bAlloc (Below.refl _ w) zCode);have z0:=heap_alloc_new w zCode;have gg0:=World.grownBy_alloc w zCode (some g);have hsz0 : (w.alloc zCode).heap.size = w.heap.size + 1:=by simp
 go_enter Tryz.func122,Tryz.ntmps122;simp only [zCode] at h0 z0 gg0 hsz0;go_wp2_with fail
 generalize w.alloc (oC none 0 0 none 0 0 0 0 0 0) = w1 at *;refine (one_cx h0 24 Om Om Om).mono ?_;rintro e w2 ⟨bo,rfl,hC2,g2⟩;have h2:=h0.grow hC2 g2;have hg1 : g < w1.heap.size:=Om;clear hC2 h0
 cases bo
 case true =>
  exact Nonempty.elim (α:=type_of% ?k1) (letI i : Nonempty (type_of% ?k1):=⟨by
   go_wp2_with fail
   refine (fullProgramme_any h2 Om).mono ?_;rintro e w3 ⟨EA,en,ec,LA,ln,lc,q0,q1,q2,q3,I,p,q,κ,rfl,F0,SE,SL,hp,he,hl⟩;have F:=F0.rebase g2 hg1;clear F0;have zz:=heap_kept z0 F.gr Om;obtain ⟨⟨y0,y1,y2,y3,y4,y5⟩,x0,x1,x2,x3,x4,x5⟩:=blk6 zz;have hlr:=(Array.getElem?_eq_some_iff.1 zz).1;go_wp2;refine bodyPost_ret (v:=.tuple #[.agg #[.slice EA en ec,.slice LA ln lc,.int .i64 q0,.int .i64 q1,.int .i64 q2,.int .i64 q3],.slice I p q]) (by simp [results,Tryz.results122,go_sem,y0,y1,y2,y3,y4,y5,x0,x1,x2,x3,x4,x5,hlr]) rfl ?_;exact (F.low (Nat.zero_le 1)).fin gg0 Om hgl SE SL Om Om Om Om
   ⟩;by exact inferInstanceAs (Nonempty _)) (fun h=>h)
 case false =>
  exact Nonempty.elim (α:=type_of% ?k6) (letI i : Nonempty (type_of% ?k6):=⟨by
   go_wp2_with fail
   refine (programme_any h2 Om).mono ?_;rintro e w3 ⟨EA,en,ec,LA,ln,lc,q0,q1,q2,q3,I,p,q,κ,rfl,F0,SE,SL,hp,he,hl⟩;have F1:=F0.rebase g2 hg1;have hBx:=bAlloc (Below.refl w3.heap.size w3) (oC EA en ec LA ln lc q0 q1 q2 q3);have F2:=F1.below hBx;have C2 : CX w1.heap.size κ (w3.alloc (oC EA en ec LA ln lc q0 q1 q2 q3)) w3.heap.size EA en ec LA ln lc q0 q1 q2 q3:=⟨heap_alloc_new w3 _,F1.gr.size,F1.th.new_ (Nat.le_refl _),SE,SL⟩;have hIx : blkOf I ≠ some w3.heap.size:=fun e=>by have:=(F1.ol.blk e).2.1;omega
   clear F0 F1 hBx SE SL h2;go_upto_region 4 with fail;generalize w3.alloc (oC EA en ec LA ln lc q0 q1 q2 q3) = W3 at *;generalize w3.heap.size = bx at *;by_cases hp0 : p = 0
   ·
    subst hp0;go_wp2_with fail
    refine (anyCode_any F2.cx Om).mono ?_;rintro e w5 ⟨EB,fn,fc,LB,mn,mc,r0,r1,r2,r3,rfl,h5,g5,hC,_,_,_⟩;obtain ⟨κ5,T5,S5E,S5L⟩:=hC.up;have F5:=F2.beside h5 g5 T5;have zz:=heap_kept z0 F5.gr Om;obtain ⟨⟨y0,y1,y2,y3,y4,y5⟩,x0,x1,x2,x3,x4,x5⟩:=blk6 zz;have hlr:=(Array.getElem?_eq_some_iff.1 zz).1;go_wp2;refine bodyPost_ret (v:=.tuple #[.agg #[.slice EB fn fc,.slice LB mn mc,.int .i64 r0,.int .i64 r1,.int .i64 r2,.int .i64 r3],.slice I 0 q]) (by simp [results,Tryz.results122,go_sem,y0,y1,y2,y3,y4,y5,x0,x1,x2,x3,x4,x5,hlr]) rfl ?_;exact (F5.low (Nat.zero_le 1)).fin gg0 Om hgl (S5E.km_ T5 Om) (S5L.km_ T5 Om) Om Om Om Om
   ·
    have hp0I : ¬ (p : Int) = 0:=Om;go_wp2_with fail
    refine (one_cx F2.cx 12 Om Om Om).mono ?_;rintro e w4 ⟨bo,rfl,hC4,g4⟩;have F3:=F2.step (F2.cx.grow hC4 g4) g4;have C3:=C2.grow g4 F2.hg;clear F2 C2 hC4 g4
    cases bo
    case true =>
     exact Nonempty.elim (α:=type_of% ?k2) (letI i : Nonempty (type_of% ?k2):=⟨by
      go_wp2_with fail
      refine (anyCode_any F3.cx Om).mono ?_;rintro e w5 ⟨EB,fn,fc,LB,mn,mc,r0,r1,r2,r3,rfl,h5,g5,hC,_,_,_⟩;obtain ⟨κ5,T5,S5E,S5L⟩:=hC.up;have F5:=F3.beside h5 g5 T5;have zz:=heap_kept z0 F5.gr Om;obtain ⟨⟨y0,y1,y2,y3,y4,y5⟩,x0,x1,x2,x3,x4,x5⟩:=blk6 zz;have hlr:=(Array.getElem?_eq_some_iff.1 zz).1;go_wp2;refine bodyPost_ret (v:=.tuple #[.agg #[.slice EB fn fc,.slice LB mn mc,.int .i64 r0,.int .i64 r1,.int .i64 r2,.int .i64 r3],.slice I p q]) (by simp [results,Tryz.results122,go_sem,y0,y1,y2,y3,y4,y5,x0,x1,x2,x3,x4,x5,hlr]) rfl ?_;exact (F5.low (Nat.zero_le 1)).fin gg0 Om hgl (S5E.km_ T5 Om) (S5L.km_ T5 Om) Om Om Om Om
      ⟩;by exact inferInstanceAs (Nonempty _)) (fun h=>h)
    case false =>
     exact Nonempty.elim (α:=type_of% ?k5) (letI i : Nonempty (type_of% ?k5):=⟨by
      go_wp2_with fail
      refine (pick_cx F3.cx p Om Om Om).mono ?_;intro e w6 hp';obtain ⟨v6,⟨ha0,ha1⟩,rfl,h6,g6⟩:=F3.cx.pick hp';have F4:=F3.step h6 g6;have C4:=C3.grow g6 F3.hg;obtain ⟨kk,rfl⟩ : ∃ kk : Nat,v6 = kk:=⟨v6.toNat,Om⟩;have hkk : kk < p:=Om;clear hp' F3 C3 h6 g6 ha0 ha1;go_wp2_with fail
      refine (pick_cx F4.cx 16 Om Om Om).mono ?_;intro e w7 hp';obtain ⟨sw,⟨hb0,hb1⟩,rfl,h7,g7⟩:=F4.cx.pick hp';have F:=F4.step h7 g7;have C:=C4.grow g7 F4.hg;clear hp' F4 C4 h7 g7;go_upto_block 0 with fail
      go_cut [5] (fun s wq=>SP R w1 wq g bx A n c (k + 5000) l s)
      case first =>
       exact Nonempty.elim (α:=type_of% ?k3) (letI i : Nonempty (type_of% ?k3):=⟨by
        clear z0 gg0 hsz0 hgl h;have hkkI : (kk : Int) < p:=Om;obtain ⟨bI,NA,nn,nc,MA,mn,mc,lt,rfl,hbl,hbb,hbk,hc0,hc1,hc2,hbf,SN,SM,hm1,hm2⟩:=F.ol.at_ hkk;have hbx : bI ≠ bx:=fun e=>hIx (by rw [e];rfl)
        have F:=F.low (Nat.zero_le 1);have hgI : some bI ≠ some g:=fun e=>by injection e with e;have:=F.hg;omega
        have BD:=grownBy_of_below (row:=some g) (bDrew (Below.refl w7.heap.size w7));by_cases s0 : sw = 0
        ·
         subst s0;obtain ⟨z,rfl,hz1,hz2,hzk,hzf,v0,hzc⟩:=SM.intAt F.th (show 0 < mn by omega);have hgz : some z ≠ some g:=fun e=>by injection e with e;have:=F.hg;omega
         have hmnN : 0 < mn:=Om;go_upto_region 9 with fail
         go_region_law ((try go_simp);go_at_call 56;(with_reducible refine (pick_cx F.drew.cx 4 Om Om Om).mono ?_);intro e w8 hp';obtain ⟨v8,_,rfl,h8,g8⟩:=F.drew.cx.pick hp';have F8:=F.drew.step h8 g8;have G8:=BD.trans g8;have C8:=C.grow G8 F.hg;have d1:=G8.cell hc1 hgI;have dz:=G8.cell hzc hgz;have df:=(G8.frozen_far ⟨z,0,none⟩ hz2 hgz).trans hzf;have dl:=Nat.lt_of_lt_of_le hbl G8.size;have dl2:=Nat.lt_of_lt_of_le hz2 G8.size)
         all_goals
          go_wp2;go_meet;exact ⟨κ,_,en,ec,_,ln,lc,q0,q1,q2,q3,_,p,q,rfl,(F8.setRow hz1 (by rw [hzk];simp) (F8.th.setI (by rw [hzk]) 0 v8)).mono Om,C8.setRow (by rw [hzk];simp) 0 _,Om⟩
        by_cases s1 : sw = 1
        ·
         subst s1;have hbf2:=hbf (kk * 3 + 2);go_wp2;go_meet;exact ⟨κ,_,en,ec,_,ln,lc,q0,q1,q2,q3,_,p,q,rfl,⟨(F.cx.set (by have:=F.cx.le;have:=F.hg;omega) (by have:=F.hg;omega) _ _).mono Om,grow_set F.gr hbb _ _,F.hg,F.th.set0 hbk,F.ol.setL hkk _⟩,C.setO hbx _ _,Om⟩
        by_cases s3 : sw = 3
        ·
         subst s3;obtain ⟨z,rfl,hz1,hz2,hzk,_⟩:=C.sL.intAt F.th (show 0 < ln by omega);obtain ⟨⟨cx0,cx1,cx2,cx3,cx4,cx5⟩,cy0,cy1,cy2,cy3,cy4,cy5⟩:=C.cells;have hlC:=C.lt_;go_upto_region 15 with fail
         go_region_law ((try go_simp);go_at_call 56;first | ((with_reducible refine (pick_cx F.drew.cx 5 Om Om Om).mono ?_);intro e w8 hp';obtain ⟨v8,⟨hv0,hv1⟩,rfl,h8,g8⟩:=F.drew.cx.pick hp';have F8:=F.drew.step h8 g8;have G8:=BD.trans g8;have C8:=C.grow G8 F.hg;obtain ⟨⟨dx0,dx1,dx2,dx3,dx4,dx5⟩,dy0,dy1,dy2,dy3,dy4,dy5⟩:=C8.cells;have hlC8:=C8.lt_;obtain ⟨i8,rfl⟩ : ∃ i : Nat,v8 = i:=⟨v8.toNat,Om⟩;have hi8 : i8 < ln:=Om;have hi8I : (i8 : Int) < ln:=Om) | ((with_reducible refine (pick_cx F8.cx 3 Om Om Om).mono ?_);intro e w9 hp';obtain ⟨v9,_,rfl,h9,g9⟩:=F8.cx.pick hp';have F9:=F8.step h9 g9;have G9:=G8.trans g9;have C9:=C.grow G9 F.hg;obtain ⟨⟨fx0,fx1,fx2,fx3,fx4,fx5⟩,fy0,fy1,fy2,fy3,fy4,fy5⟩:=C9.cells;have hlC9:=C9.lt_;obtain ⟨_,l9,o9⟩:=F9.th.atI hzk;have d9:=o9.cell_ i8 hi8;have df:=o9.frozen_ i8;have dl2:=(o9.blk rfl).2))
         all_goals
          go_wp2;go_meet;exact ⟨κ,_,en,ec,_,ln,lc,q0,q1,q2,q3,_,p,q,rfl,(F9.setRow hz1 (by rw [hzk];simp) (F9.th.setI (by rw [hzk]) i8 v9)).mono Om,C9.setRow (by rw [hzk];simp) i8 _,Om⟩
        by_cases s5 : sw = 5
        ·
         subst s5;go_wp2_with fail
         refine (anyItems_any F.cx Om).mono ?_;rintro e w8 ⟨J,pj,qj,κ8,rfl,F8,hpj⟩;go_wp2;go_meet;exact ⟨_,_,en,ec,_,ln,lc,q0,q1,q2,q3,J,pj,qj,rfl,(F.swap F8.cx F8.gr F8.th F8.ol).mono Om,(C.kx_ F.th (Kx.km_ _ κ κ8)).grow F8.gr F.hg,Om⟩
        by_cases s2 : sw = 2
        ·
         subst s2;obtain ⟨z,rfl,hz1,hz2,hzk,hzf,v0,hzc,_⟩:=SN.strAt F.th (show 0 < nn by omega);have hgz : some z ≠ some g:=fun e=>by injection e with e;have:=F.hg;omega
         have hnnN : 0 < nn:=Om;have hsm : ∀ x ∈ elNames ++ [(⟨#[81,81]⟩ : ByteArray),⟨#[]⟩],x.size <= 100:=fun x hx=>by
          rcases List.mem_append.1 hx with hx | hx
          ·
           exact elNames_small x hx
          ·
           simp at hx;rcases hx with rfl | rfl <;> decide
         have cN1:=elementNames_any w7.drew;have cN2:=elementNames_any (w7.alloc (.cells #[.string ⟨#[81,81]⟩,.string ⟨#[]⟩] 9)).drew;have hgw7:=F.cx.cur.lt;have hBL : Below w7.heap.size w7 (w7.alloc (.cells #[.string ⟨#[81,81]⟩,.string ⟨#[]⟩] 9)).drew:=by repeat first | exact .refl _ _ | assumption | refine bExt ?_ _ | refine bAlloc ?_ _ | refine bDrewN ?_ _ | refine bDrew ?_ | refine bSet ?_ (by first | exact Nat.le_refl _ | omega | (simp <;> omega)) _
         have hl1:=fun x8 : World=>(show Below w7.heap.size w7 ((ext w7.drew x8).alloc (.cells #[.string ⟨#[81,81]⟩,.string ⟨#[]⟩] 9)) from bL)
         have hl2:=fun x8 : World=>(show Below w7.heap.size w7 (ext (w7.alloc (.cells #[.string ⟨#[81,81]⟩,.string ⟨#[]⟩] 9)).drew x8) from bL)
         have hl3:=fun x8 : World=>(show Below w7.drew.heap.size w7.drew ((ext w7.drew x8).alloc (.cells #[.string ⟨#[81,81]⟩,.string ⟨#[]⟩] 9)) from bL)
         have hl4:=fun x8 : World=>(show Below (w7.alloc (.cells #[.string ⟨#[81,81]⟩,.string ⟨#[]⟩] 9)).drew.heap.size (w7.alloc (.cells #[.string ⟨#[81,81]⟩,.string ⟨#[]⟩] 9)).drew (ext (w7.alloc (.cells #[.string ⟨#[81,81]⟩,.string ⟨#[]⟩] 9)).drew x8) from bL)
         have hszL : (w7.alloc (.cells #[.string ⟨#[81,81]⟩,.string ⟨#[]⟩] 9)).drew.heap.size = w7.heap.size + 1:=by simp [go_sem]
         have hl5 : ∀ x8 : World,w7.heap.size + 1 <= (ext (w7.alloc (.cells #[.string ⟨#[81,81]⟩,.string ⟨#[]⟩] 9)).drew x8).heap.size:=fun x8=>by rw [<- hszL];exact (hl4 x8).size
         have hR2:=fun x8 : World=>((newT2 w7 ⟨#[81,81]⟩ ⟨#[]⟩).below (bDrew (Below.refl _ _))).below (ext_below (w7.alloc (.cells #[.string ⟨#[81,81]⟩,.string ⟨#[]⟩] 9)).drew x8)
         have hofm:=fun (w9 : World) (hB9 : Below w7.heap.size w7 w9) (A' : OA) (c' b9 : Nat) (hb9 : w7.heap.size <= b9) (ho : OwT b9 w9 A' (24 + 2) c' (elNames ++ [(⟨#[81,81]⟩ : ByteArray),⟨#[]⟩]))=>of_any (F.below hB9).cx Om A' (24 + 2) c' _ ho.rd (fun x hx=>by have:=(ho.blk hx).1;omega) Om Om
         go_upto_region 13 with fail
         go_region_law (first | ((try go_simp);go_at_call 146;first | ((with_reducible refine cN1.mono ?_);rintro e w8 ⟨rfl,x8,rfl,oN⟩;have oN2:=oN.below (bAlloc (Below.refl _ _) (.cells #[.string ⟨#[81,81]⟩,.string ⟨#[]⟩] 9));have hR:=newT2 (ext w7.drew x8) ⟨#[81,81]⟩ ⟨#[]⟩;have hBB:=hl1 x8;have hbs:=(hl3 x8).size;have hb9 : w7.heap.size <= w7.drew.heap.size:=Nat.le_refl w7.heap.size) | ((with_reducible refine cN2.mono ?_);rintro e w8 ⟨rfl,x8,rfl,oN⟩;have oN2:=oN;rw [hszL] at oN2;have hR:=hR2 x8;have hBB:=hl2 x8;have hbs:=hl5 x8;have hb9 : w7.heap.size <= w7.heap.size + 1:=Nat.le_succ _)) | (refine app_str rfl _ _ hbs rfl rfl (show 24 + 2 <= 1099511627776 by omega) rfl oN2 hR ?_;intro A' c' w9 ho hg hd;have hB9:=below_grown hBB hg (fun q hq=>Nat.le_trans hb9 (oN2.blk hq).1);have e0:=(hB9.cell (p:=⟨bI,kk * 3,none⟩) hbl).trans hc0;have eb:=Nat.lt_of_lt_of_le hbl hB9.size) | ((try go_simp);go_at_call 145;(with_reducible refine (hofm _ hB9 _ _ _ hb9 ho).mono ?_);rintro e w10 ⟨s,hsL,rfl,h10,g10⟩;have F10:=(F.below hB9).step h10 g10;have G10:=(grownBy_of_below (row:=some g) hB9).trans g10;have d0:=G10.cell hc0 hgI;have dz:=G10.cell hzc hgz;have df:=(G10.frozen_far ⟨z,0,none⟩ hz2 hgz).trans hzf;have dl:=Nat.lt_of_lt_of_le hbl G10.size;have dl2:=Nat.lt_of_lt_of_le hz2 G10.size))
         all_goals
          go_wp2;go_meet;exact ⟨κ,_,en,ec,_,ln,lc,q0,q1,q2,q3,_,p,q,rfl,(F10.setRow hz1 (by rw [hzk];simp) (F10.th.setS (by rw [hzk]) 0 s (hsm s hsL))).mono Om,(C.grow G10 F.hg).setRow (by rw [hzk];simp) 0 _,Om⟩
        by_cases s4 : sw = 4
        ·
         subst s4;have F':=F.set0 C.hr C.kx hIx 2 (.int .i64 1);have C':=C.setQ 1;obtain ⟨⟨cx0,cx1,cx2,cx3,cx4,cx5⟩,cy0,cy1,cy2,cy3,cy4,cy5⟩:=C.cells;have hlC:=C.lt_;go_upto_region 18 with fail;clear cx0 cx1 cx2 cx3 cx4 cx5 cy0 cy1 cy2 cy3 cy4 cy5 hlC F C hc0 hc1 hc2 hbf SN SM hbl;generalize w7.setCell ⟨bx,2,none⟩ (.int .i64 1) = W8 at *;have hp3 : p <= 1000:=Om;obtain ⟨r,hr,hrp,hr5⟩ : ∃ r : Nat,(r : Int) = min (p : Int) 5 /\ r <= p /\ r <= 5:=⟨min p 5,Om,Om,Om⟩;have cl:=fun W=>l1Least_any (p : Int) 5 W
         rw [<- hr] at cl;clear hr;go_wp2_with fail
         refine (itOwn_any W8 _ F'.th F'.ol hp3).mono ?_;rintro e w9 ⟨J1,cj1,κ1,x1,rfl,rfl,T1,O1⟩;have hB1:=ext_below W8 x1;have F9:=F'.below hB1;generalize ext W8 x1 = W9 at *;go_wp2_with fail
         refine (itOwn_any W9 _ F9.th F9.ol hp3).mono ?_;rintro e w10 ⟨J2,cj2,κ2,x2,rfl,rfl,T2,O2⟩;have hB2:=ext_below W9 x2;have T12:=T1.merge (g:=g) (grownBy_of_below hB2) (T1.low_ (by have:=F'.hg;have:=F'.gr.size;omega)) hB1.size T2;have O1':=(O1.kx T1 (Kx.km_ _ _ κ2)).below hB2;have O2' : OL W8.heap.size (km W9.heap.size κ1 κ2) 0 (ext W9 x2) J2 p cj2:=O2.km_ T2 hB1.size;have hB3:=hB1.trans (hB2.mono hB1.size);have hcap:=O2.cap_;have hrc : (r : Int) <= cj2:=Om;have hrcN : r <= cj2:=Om;obtain ⟨xs,ys,a1,a2,a3,a4⟩:=OL.app T12 O1' O2' hrp;have hpr : p + r <= 1099511627776:=Om;have hpr2 : p + r <= 1000:=Om;clear T1 T2 O1 O2 F9 hB1 hB2 hcap;generalize ext W9 x2 = W10 at *;go_wp2_with (first | (go_at_call 124;(with_reducible refine ep (cl _) ?_)) | (at_builtin;(refine wpl_step fun E=>?_);refine app_item rfl _ _ hB3.size rfl rfl hpr rfl a1 a2 a3 ?_;intro A' c' w' ho hg hd;obtain ⟨T3,O3⟩:=a4 A' c' w' ho hg hd;have hB4:=below_grown hB3 hg (fun q hq=>(O1'.blk hq).1)) | (go_at_call 170;((with_reducible refine (pgLate_any _ _ T3 O3 hpr2).mono ?_);rintro e w' ⟨J3,cj3,κ3,x3,rfl,rfl,T4,O4⟩)))
         have F11:=F'.below hB4;have hB5:=ext_below w' x3;go_meet;exact ⟨_,_,en,ec,_,ln,lc,1,q1,q2,q3,J3,p + r,cj3,rfl,(F11.swap (F11.below hB5).cx (grownBy_of_below hB5) T4 O4).mono Om,((C'.below hB4).kx_ F11.th (Kx.km_ _ _ κ3)).below hB5,Om⟩
        ·
         go_wp2;go_meet;exact ⟨κ,_,en,ec,_,ln,lc,q0,q1,q2,q3,_,p,q,rfl,F.mono Om,C,Om⟩
        ⟩;by exact inferInstanceAs (Nonempty _)) (fun h=>h)
      case rest =>
       exact Nonempty.elim (α:=type_of% ?k4) (letI i : Nonempty (type_of% ?k4):=⟨by
        obtain ⟨κ,EA,en,ec,LA,ln,lc,q0,q1,q2,q3,I,p,q,rfl,F,C,hp⟩:=hcut;obtain ⟨⟨ex0,ex1,ex2,ex3,ex4,ex5⟩,ey0,ey1,ey2,ey3,ey4,ey5⟩:=C.cells;have hlC:=C.lt_;have zz:=heap_kept z0 F.gr Om;obtain ⟨⟨y0,y1,y2,y3,y4,y5⟩,x0,x1,x2,x3,x4,x5⟩:=blk6 zz;have hlr:=(Array.getElem?_eq_some_iff.1 zz).1;go_wp2;refine bodyPost_ret (v:=.tuple #[.agg #[.slice EA en ec,.slice LA ln lc,.int .i64 q0,.int .i64 q1,.int .i64 q2,.int .i64 q3],.slice I p q]) (by simp [results,Tryz.results122,go_sem,ex0,ex1,ex2,ex3,ex4,ex5,y0,y1,y2,y3,y4,y5,x0,x1,x2,x3,x4,x5,hlr]) rfl ?_;exact F.fin gg0 Om hgl C.sE C.sL Om Om Om Om
        ⟩;by exact inferInstanceAs (Nonempty _)) (fun h=>h)
      ⟩;by exact inferInstanceAs (Nonempty _)) (fun h=>h)
   ⟩;by exact inferInstanceAs (Nonempty _)) (fun h=>h)
end Go.Proofs.YtlfhhkgleapamaaGreatDoor
