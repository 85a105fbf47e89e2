/- Drawn programmes: a list of items beside a code in its box; itOwn and pgLate on it; programme. Conditions: none. -/
import Derived.Test.YtlfhhkgleapamaaGreatDoorRDr5s
import Derived.Test.YtlfhhkgleapamaaGreatDoorRPg2
set_option linter.unusedVariables false
set_option linter.unusedSimpArgs false
set_option maxRecDepth 100000
set_option maxHeartbeats 16000000
namespace Go.Proofs.YtlfhhkgleapamaaGreatDoor
open Go.RowKit
structure CX (base : Nat) (κ : Kf) (W : World) (bx : Nat) (EA : OA) (en ec : Nat) (LA : OA) (ln lc : Nat) (q0 q1 q2 q3 : Int) : Prop where
 hx : W.heap[bx]? = some (oC EA en ec LA ln lc q0 q1 q2 q3)
 hr : base <= bx
 kx : (κ bx).1 = 0
 sE : SK 3 κ EA en ec
 sL : SK 1 κ LA ln lc
section
variable {base bx g s n c m t : Nat} {κ κ' : Kf} {w W W' : World} {EA : OA} {en ec : Nat} {LA : OA} {ln lc : Nat} {q0 q1 q2 q3 : Int} {I NA MA : OA} {nn nc mn mc : Nat} {lt : Bool}
theorem CX.lt_ (C : CX base κ W bx EA en ec LA ln lc q0 q1 q2 q3) : bx < W.heap.size:=(Array.getElem?_eq_some_iff.1 C.hx).1
theorem CX.row {row : Option Nat} (C : CX base κ W bx EA en ec LA ln lc q0 q1 q2 q3) (hg : W.grownBy W' row) (hr : row ≠ some bx) : CX base κ W' bx EA en ec LA ln lc q0 q1 q2 q3:=⟨heap_row C.hx hg hr,C.hr,C.kx,C.sE,C.sL⟩
theorem CX.grow (C : CX base κ W bx EA en ec LA ln lc q0 q1 q2 q3) (hg : W.grownBy W' (some g)) (hgb : g < base) : CX base κ W' bx EA en ec LA ln lc q0 q1 q2 q3:=C.row hg (fun e=>by injection e with e;have:=C.hr;omega)
theorem CX.below (C : CX base κ W bx EA en ec LA ln lc q0 q1 q2 q3) (hb : Below W.heap.size W W') : CX base κ W' bx EA en ec LA ln lc q0 q1 q2 q3:=C.row (row:=none) (grownBy_of_below hb) (fun e=>by cases e)
theorem CX.kx_ (C : CX base κ W bx EA en ec LA ln lc q0 q1 q2 q3) (hT : Th base κ W) (hx : Kx W.heap.size κ κ') : CX base κ' W bx EA en ec LA ln lc q0 q1 q2 q3:=⟨C.hx,C.hr,by rw [hx bx C.lt_];exact C.kx,C.sE.kx hT Om hx,C.sL.kx hT Om hx⟩
theorem CX.cells (C : CX base κ W bx EA en ec LA ln lc q0 q1 q2 q3) : (W.cell? ⟨bx,0,none⟩ = some (.slice EA en ec) /\ W.cell? ⟨bx,1,none⟩ = some (.slice LA ln lc) /\ W.cell? ⟨bx,2,none⟩ = some (.int .i64 q0) /\ W.cell? ⟨bx,3,none⟩ = some (.int .i64 q1) /\ W.cell? ⟨bx,4,none⟩ = some (.int .i64 q2) /\ W.cell? ⟨bx,5,none⟩ = some (.int .i64 q3)) /\ W.frozen? ⟨bx,0,none⟩ = false /\ W.frozen? ⟨bx,1,none⟩ = false /\ W.frozen? ⟨bx,2,none⟩ = false /\ W.frozen? ⟨bx,3,none⟩ = false /\ W.frozen? ⟨bx,4,none⟩ = false /\ W.frozen? ⟨bx,5,none⟩ = false:=blk6 C.hx
theorem SK.name {i : Nat} (h : SK 3 κ EA en ec) (hT : Th base κ W) (hi : i < en) : ∃ z s,EA = some ⟨z,0,none⟩ /\ z < W.heap.size /\ W.cell? ⟨z,i * 4,none⟩ = some (.string s) /\ s.size <= 100:=by
 obtain ⟨hn,l,ho,hs⟩:=h.els hT;obtain ⟨z,rfl,hz1,hz2⟩:=Ow.form_ ho Om;have hl : l.length = en:=by have:=ho.1;rw [elCells_len] at this;omega
 refine ⟨z,(l[i]?.getD zEl).1,rfl,hz2,?_,hs _ (getD_mem zEl l i Om)⟩;rw [Ow.cell_ ho _ Om];exact (elCells_get l i Om).1
theorem SK.intAt {i : Nat} (h : SK 1 κ LA ln lc) (hT : Th base κ W) (hi : i < ln) : ∃ z,LA = some ⟨z,0,none⟩ /\ base <= z /\ z < W.heap.size /\ κ z = (1,ln,lc) /\ W.frozen? ⟨z,i,none⟩ = false /\ ∃ v : Int,W.cell? ⟨z,i,none⟩ = some (.int .i64 v):=by
 rcases h with ⟨_,h,_⟩ | ⟨z,rfl,hk⟩
 ·
  omega
 ·
  obtain ⟨h0,l,ho⟩:=hT.atI hk;obtain ⟨h1,h2⟩:=ho.blk rfl;exact ⟨z,rfl,h1,h2,hk,ho.frozen_ i,_,ho.cell_ i hi⟩
theorem SK.strAt {i : Nat} (h : SK 2 κ NA nn nc) (hT : Th base κ W) (hi : i < nn) : ∃ z,NA = some ⟨z,0,none⟩ /\ base <= z /\ z < W.heap.size /\ κ z = (2,nn,nc) /\ W.frozen? ⟨z,i,none⟩ = false /\ ∃ v : ByteArray,W.cell? ⟨z,i,none⟩ = some (.string v) /\ v.size <= 100:=by
 obtain ⟨_,l,ho,hs⟩:=h.strs hT
 rcases h with ⟨_,h,_⟩ | ⟨z,rfl,hk⟩
 ·
  omega
 ·
  obtain ⟨h1,h2⟩:=ho.blk rfl;exact ⟨z,rfl,h1,h2,hk,ho.frozen_ i,_,ho.cell_ i hi,hs _ (getD_mem ByteArray.empty l i (by rw [ho.len];omega))⟩
theorem SK.eqK {κ' : Kf} {A : OA} (h : SK t κ A n c) (he : ∀ b,κ b ≠ (0,0,0) -> (κ b).1 ≠ 0 -> κ' b = κ b) (ht : t ≠ 0) : SK t κ' A n c:=by
 rcases h with h | ⟨b,h1,h2⟩
 ·
  exact .inl h
 ·
  refine .inr ⟨b,h1,(he b (fun e=>?_) (by rw [h2];exact ht)).trans h2⟩;rw [h2] at e;injection e with e;exact ht e
theorem CdO.up (h : CdO s W EA en ec LA ln lc) : ∃ κ,Th s κ W /\ SK 3 κ EA en ec /\ SK 1 κ LA ln lc:=by
 obtain ⟨⟨el,o1,s1⟩,⟨ll,o2⟩,hne,h1,h2⟩:=h;obtain ⟨κ1,x1,T1,S1,e1⟩:=(Th.k0_ (base:=s) (w:=W)).upE (s:=s) o1 s1 Om (fun b hb=>(Ow.blk o1 hb).1);obtain ⟨κ2,x2,T2,S2,e2⟩:=T1.upI (s:=s) o2 Om (fun b hb=>(o2.blk hb).1);refine ⟨κ2,T2,?_,S2⟩
 rcases S1 with S1 | ⟨b,rfl,hb⟩
 ·
  exact .inl S1
 ·
  refine .inr ⟨b,rfl,(e2 b fun e=>?_).trans hb⟩
  rcases hne with hne | hne
  ·
   cases hne
  ·
   exact hne e.symm
theorem OL.pushRows (hT : Th base κ W) (h : OL base κ m W I n c) (hi : ItO t m W NA nn nc MA mn mc) (ht : base <= t) (hz : ∀ z,blkOf NA = some z ∨ blkOf MA = some z -> (κ z).1 = 0 /\ blkOf I ≠ some z) :
  ∃ xs,Ow 61 3 base W I n c xs /\ ∀ (I' : OA) (c' : Nat) (W4 w' : World),Below W.heap.size W W4 -> Ow 61 3 base w' I' (n + 1) c' (xs ++ [.slice NA nn nc,.slice MA mn mc,.bool lt]) -> W4.grownBy w' (blkOf I) -> (blkOf I' = blkOf I ∨ blkOf I' = some W4.heap.size) ->
   ∃ κ',Th base κ' w' /\ OL base κ' m w' I' (n + 1) c':=by
 obtain ⟨xs,q1,q2,q3⟩:=h;refine ⟨xs,q1,fun I' c' W4 w' hW4 ho hg hd=>?_⟩;obtain ⟨κ',hx,T2,S1,S2,m1,m2,he⟩:=hT.upIt hi ht;have hkI : ∀ b,blkOf I = some b -> (κ' b).1 = 0:=fun b e=>by
  rw [he b (fun e2=>(hz b (.inl e2)).2 e) (fun e2=>(hz b (.inr e2)).2 e)];exact q2 b e
 have T3:=T2.below hW4;have T4:=T3.row hg hkI;have hS : ∀ (t : Nat) (A : OA) (n c : Nat),t ≠ 0 -> SK t κ A n c -> SK t κ' A n c:=fun t A n c ht0 hs=>hs.eqK (fun b _ hb=>he b (fun e=>hb (hz b (.inl e)).1) (fun e=>hb (hz b (.inr e)).1)) ht0
 refine ⟨κ',T4,OL.push (xs:=xs) (fun j hj=>?_) q1.len ho (fun b e=>?_) S1 S2 m1 m2⟩
 ·
  obtain ⟨NA',nn',nc',MA',mn',mc',lt',r1,r2,r3,r4,r5,r6⟩:=q3 j hj;exact ⟨NA',nn',nc',MA',mn',mc',lt',r1,r2,r3,hS _ _ _ _ Om r4,hS _ _ _ _ Om r5,r6⟩
 ·
  rcases hd with hd | hd
  ·
   exact hkI b (hd ▸ e)
  ·
   rw [hd] at e;injection e with e;subst e;exact T3.new_ (Nat.le_refl _)
theorem OL.mono_ (h : OL base κ m W I n c) {b' : Nat} (hb : b' <= base) : OL b' κ m W I n c:=by
 obtain ⟨xs,q1,q2,q3⟩:=h;exact ⟨xs,Ow.mono q1 hb,q2,q3⟩
end
section
variable {R w W W' : World} {g n c k k' m p q z : Nat} {A I : OA} {l : List Int} {κ κ' : Kf}
theorem LS.setRow (F : LS R w W g A n c k l κ m I p q) (hz : w.heap.size <= z) (hk : (κ z).1 ≠ 0) {j : Nat} {v : Value} (hT : Th w.heap.size κ (W.setCell ⟨z,j,none⟩ v)) : LS R w (W.setCell ⟨z,j,none⟩ v) g A n c k l κ m I p q :=
 ⟨F.cx.set (by have:=F.cx.le;have:=F.hg;omega) (by have:=F.hg;omega) j v,grow_set F.gr hz j v,F.hg,hT,F.ol.row (gSetM W z j v) (fun b hb e=>by injection e with e;subst e;exact hk (F.ol.blk hb).2.2)⟩
theorem LS.set0 (F : LS R w W g A n c k l κ m I p q) (hz : w.heap.size <= z) (hk : (κ z).1 = 0) (hI : blkOf I ≠ some z) (j : Nat) (v : Value) : LS R w (W.setCell ⟨z,j,none⟩ v) g A n c k l κ m I p q :=
 ⟨F.cx.set (by have:=F.cx.le;have:=F.hg;omega) (by have:=F.hg;omega) j v,grow_set F.gr hz j v,F.hg,F.th.set0 hk,F.ol.row (gSetM W z j v) (fun b hb e=>by injection e with e;subst e;exact hI hb)⟩
theorem LS.rebase {w0 : World} (F : LS R w W g A n c k l κ m I p q) (gg : w0.grownBy w (some g)) (hg : g < w0.heap.size) : LS R w0 W g A n c k l κ m I p q :=
 ⟨F.cx,gg.trans F.gr,hg,F.th.mono gg.size,F.ol.mono_ gg.size⟩
theorem LS.swap {κ2 : Kf} {m2 p2 q2 : Nat} {J : OA} (F : LS R w W g A n c k l κ m I p q) (hX : Cx R W' g A n c k' l) (hg : W.grownBy W' (some g)) (hT : Th W.heap.size κ2 W') (hO : OL W.heap.size κ2 m2 W' J p2 q2) : LS R w W' g A n c k' l (km W.heap.size κ κ2) m2 J p2 q2 :=
 ⟨hX,F.gr.trans hg,F.hg,F.th.merge hg (F.th.low_ F.hg) F.gr.size hT,hO.km_ hT F.gr.size⟩
end
theorem IB.pushL {R w W2 W3 : World} {g b n c k : Nat} {A : OA} {l : List Int} {NA : OA} {j nc : Nat} {MA : OA} {mc s p cj : Nat} {lt : Bool} {κ2 : Kf} {J : OA} (F3 : IB R w W2 g b A n c k l NA j nc MA j mc lt) (hB : Below W2.heap.size W2 W3) (T2 : Th s κ2 W3) (O2 : OL s κ2 1 W3 J p cj) (hs : W2.heap.size <= s) (hj : 1 <= j) (hj3 : j <= 1000) :
  ∃ xs,Ow 61 3 (b + 1) W3 J p cj xs /\ ∀ (I' : OA) (c' : Nat) (W4 w' : World),Below W3.heap.size W3 W4 -> Ow 61 3 (b + 1) w' I' (p + 1) c' (xs ++ [.slice NA j nc,.slice MA j mc,.bool lt]) -> W4.grownBy w' (blkOf J) -> (blkOf I' = blkOf J ∨ blkOf I' = some W4.heap.size) ->
   (∃ κ',Th (b + 1) κ' w' /\ OL (b + 1) κ' 1 w' I' (p + 1) c') /\ Below W2.heap.size W2 w':=by
 have hlt:=F3.lt_;obtain ⟨nl,o1,s1⟩:=F3.oN;obtain ⟨ml,o2⟩:=F3.oM;obtain ⟨xs,q1,hp⟩:=OL.pushRows (lt:=lt) (t:=b + 1) (T2.mono (show b + 1 <= s by omega)) (O2.mono_ (show b + 1 <= s by omega)) (⟨⟨nl,o1.below hB,s1⟩,⟨ml,o2.below hB⟩,F3.ne,⟨hj,hj⟩,hj3,hj3⟩ : ItO (b + 1) 1 W3 NA j nc MA j mc) (Nat.le_refl _) (fun z hz=>by
  have hzs : z < s:=by
   rcases hz with hz | hz
   ·
    have:=(o1.blk hz).2;omega
   ·
    have:=(o2.blk hz).2;omega
  exact ⟨T2.low_ hzs,fun e=>by have:=(O2.blk e).1;omega⟩)
 refine ⟨xs,q1,fun I' c' W4 w' h4 ho hg hd=>⟨hp I' c' W4 w' h4 ho hg hd,below_grown (hB.trans (h4.mono hB.size)) hg (fun z hz=>by have:=(O2.blk hz).1;omega)⟩⟩
def RetPr (R w : World) (g : Nat) (A : OA) (n c k : Nat) (l : List Int) (m u me ml : Nat) (e : Ending) (w' : World) : Prop:=∃ (EA : OA) (en ec : Nat) (LA : OA) (ln lc : Nat) (q0 q1 q2 q3 : Int) (I : OA) (p q : Nat) (κ : Kf),e = .returned (.tuple #[.agg #[.slice EA en ec,.slice LA ln lc,.int .i64 q0,.int .i64 q1,.int .i64 q2,.int .i64 q3],.slice I p q]) /\ LS R w w' g A n c k l κ m I p q /\ SK 3 κ EA en ec /\ SK 1 κ LA ln lc /\ p <= u /\ me <= en /\ ml <= ln
theorem programme_any {R w : World} {g n c k : Nat} {A : OA} {l : List Int} (h : Cx R w g A n c k l) (hk : k <= 700000) :
  Calls Tryz.prog 121 #[.pointer (some ⟨g,0,none⟩)] w (RetPr R w g A n c (k + 2000) l 1 9 1 5):=by
 have hgl:=h.cur.lt;have h0:=h.below (bAlloc (Below.refl _ w) zCode);have z0:=heap_alloc_new w zCode;have gg0:=World.grownBy_alloc w zCode (some g);have hsz0 : (w.alloc zCode).heap.size = w.heap.size + 1:=by simp
 go_enter Tryz.func121,Tryz.ntmps121;simp only [zCode] at h0 z0 gg0 hsz0;go_wp2_with fail
 generalize w.alloc (oC none 0 0 none 0 0 0 0 0 0) = w1 at *;refine (pointsCode_any h0 Om).mono ?_;rintro e w2 ⟨EA,en,ec,LA,ln,lc,q0,q1,q2,q3,rfl,h2,g2,hC,he1,hl5,hl6⟩;have heb:=hC.2.2.2.1;obtain ⟨κ0,T0,SE,SL⟩:=hC.up;obtain ⟨zE,_,rfl,_⟩:=SE.name T0 he1;have hBx:=bAlloc (Below.refl w2.heap.size w2) (.cells #[.slice (some ⟨zE,0,none⟩) en ec,.slice LA ln lc,.int .i64 q0,.int .i64 q1,.int .i64 q2,.int .i64 q3] 27);have F1 : LS R w1 (w2.alloc (.cells #[.slice (some ⟨zE,0,none⟩) en ec,.slice LA ln lc,.int .i64 q0,.int .i64 q1,.int .i64 q2,.int .i64 q3] 27)) g A n c (k + 1000) l κ0 1 none 0 0:=⟨h2.below hBx,g2.trans (grownBy_of_below hBx),Om,T0.below hBx,OL.nil_⟩;have C1 : CX w1.heap.size κ0 (w2.alloc (.cells #[.slice (some ⟨zE,0,none⟩) en ec,.slice LA ln lc,.int .i64 q0,.int .i64 q1,.int .i64 q2,.int .i64 q3] 27)) w2.heap.size (some ⟨zE,0,none⟩) en ec LA ln lc q0 q1 q2 q3:=⟨heap_alloc_new w2 _,g2.size,T0.new_ (Nat.le_refl _),SE,SL⟩;clear h2 g2 hC h0 T0 SE SL hBx;go_wp2_with fail
 generalize w2.alloc (.cells #[.slice (some ⟨zE,0,none⟩) en ec,.slice LA ln lc,.int .i64 q0,.int .i64 q1,.int .i64 q2,.int .i64 q3] 27) = W1 at *;generalize w2.heap.size = bx at *;refine (one_cx F1.cx 2 Om Om Om).mono ?_;rintro e w3 ⟨bo,rfl,hC3,g3⟩;have F3:=F1.step (F1.cx.grow hC3 g3) g3;have C3:=C1.grow g3 F1.hg;clear F1 C1 hC3 g3;go_upto_if 14 with fail
 go_cut [] (fun wq=>LS R w1 wq g A n c (k + 1002) l κ0 1 none 0 0 /\ CX w1.heap.size κ0 wq bx (some ⟨zE,0,none⟩) en ec LA ln lc q0 q1 q2 q3)
 case first =>
  exact Nonempty.elim (α:=type_of% ?k2) (letI i : Nonempty (type_of% ?k2):=⟨by
   clear z0 gg0 hsz0 hgl h
   cases bo
   ·
    go_wp2;go_meet;exact ⟨F3.mono Om,C3⟩
   ·
    obtain ⟨⟨ax0,ax1,ax2,ax3,ax4,ax5⟩,ay0,ay1,ay2,ay3,ay4,ay5⟩:=C3.cells;have hlC3:=C3.lt_;go_wp2_with fail
    go_loopw [5,18] (fun _ i wr=>∃ j : Nat,j <= ln /\ i = .int .i64 j /\ LS R w1 wr g A n c (k + 1002) l κ0 1 none 0 0 /\ CX w1.heap.size κ0 wr bx (some ⟨zE,0,none⟩) en ec LA ln lc q0 q1 q2 q3) (fun _ i _=>ln - (intOf i).toNat)
    case atStart=>exact ⟨0,Om,rfl,F3.mono Om,C3⟩
    case round =>
     exact Nonempty.elim (α:=type_of% ?k1) (letI i : Nonempty (type_of% ?k1):=⟨by
      obtain ⟨j,hj,rfl,F,C⟩:=hrel;clear F3 C3 ax0 ax1 ax2 ax3 ax4 ax5 ay0 ay1 ay2 ay3 ay4 ay5 hlC3;obtain ⟨⟨bx0,bx1,bx2,bx3,bx4,bx5⟩,by0,by1,by2,by3,by4,by5⟩:=C.cells;have hlC:=C.lt_;by_cases hlt : j < ln
      ·
       have hltI : (j : Int) < ln:=Om;obtain ⟨z,rfl,hzb,hzl,hzk,hzf,v,hzc⟩:=C.sL.intAt F.th hlt;have hzx : z ≠ bx:=fun e=>by subst e;have:=C.kx;rw [hzk] at this;cases this
       go_wp2;go_roundw
       case rel=>exact ⟨j + 1,Om,by go_num,F.setRow hzb (by rw [hzk];simp) (F.th.setI (by rw [hzk]) j 9),C.row (gSetM _ z j _) (fun e=>by injection e with e;exact hzx e)⟩
       case measure=>simp [intOf];omega
      ·
       have hltI : ¬ (j : Int) < ln:=Om;go_wp2;go_meet;exact ⟨F,C⟩
      ⟩;by exact inferInstanceAs (Nonempty _)) (fun h=>h)
   ⟩;by exact inferInstanceAs (Nonempty _)) (fun h=>h)
 case rest =>
  exact Nonempty.elim (α:=type_of% ?k5) (letI i : Nonempty (type_of% ?k5):=⟨by
   obtain ⟨F,C⟩:=hcut;clear F3 C3;go_wp2_with fail
   refine (pick_cx F.cx 9 Om Om Om).mono ?_;intro e w5 hp;obtain ⟨v2,⟨ha0,ha1⟩,rfl,h5,g5⟩:=F.cx.pick hp;have F5:=F.step h5 g5;have C5:=C.grow g5 F.hg;obtain ⟨v,rfl⟩ : ∃ v : Nat,v2 = v:=⟨v2.toNat,Om⟩;obtain ⟨N,hN,hN1,hN2⟩ : ∃ N : Nat,1 + v = N /\ 1 <= N /\ N <= 9:=⟨_,rfl,Om,Om⟩;have e1 : wrap64 (1 + (v : Int)) = N:=by rw [IntWalk.wrap64_in _ Om];omega
   clear hp h5 g5 F C ha0 ha1 hN;go_wp2_with fail
   generalize wrap64 (1 + (v : Int)) = i1 at *;subst e1
   go_loopw [6,7,8,9,10] (fun s i _ _ _ wr=>∃ (q j : Nat) (κ : Kf) (I : OA) (p cp : Nat),j + q = N /\ p <= j /\ i = .int .i64 q /\ s = .slice I p cp /\ LS R w1 wr g A n c (k + 1010 + 30 * j) l κ 1 I p cp /\ CX w1.heap.size κ wr bx (some ⟨zE,0,none⟩) en ec LA ln lc q0 q1 q2 q3) (fun _ i _ _ _ _=>(intOf i).toNat)
   case atStart=>exact ⟨N,0,κ0,none,0,0,Om,Nat.le_refl _,rfl,rfl,F5.mono Om,C5⟩
   case round =>
    exact Nonempty.elim (α:=type_of% ?k4) (letI i : Nonempty (type_of% ?k4):=⟨by
     clear F5 C5;obtain ⟨q,j,κ,I,p,cp,hq,hpj,rfl,rfl,F,C⟩:=hrel;by_cases hq0 : 0 < q
     ·
      have hq0I : (0 : Int) < q:=Om;have hB2:=bAlloc (Below.refl wr.heap.size wr) (.cells #[.slice none 0 0,.slice none 0 0,.bool false] 61);have F2 : IB R wr (wr.alloc (.cells #[.slice none 0 0,.slice none 0 0,.bool false] 61)) g wr.heap.size A n c (k + 1010 + 30 * j) l none 0 0 none 0 0 false:=⟨F.cx.below hB2,grownBy_of_below hB2,rfl,F.cx.cur.lt,heap_alloc_new wr _,⟨[],OwT.nil_,fun x hx=>by cases hx⟩,⟨[],OwI.nil_⟩,.inl rfl⟩;have hsz2 : wr.heap.size + 1 = (wr.alloc (.cells #[.slice none 0 0,.slice none 0 0,.bool false] 61)).heap.size:=by simp
      clear hB2;go_wp2_with fail
      generalize wr.alloc (.cells #[.slice none 0 0,.slice none 0 0,.bool false] 61) = W2 at *;generalize hbb : wr.heap.size = b at *;have Hbb:=Lib.hid hbb;have Hs2:=Lib.hid hsz2;clear hbb hsz2;go_wp2_with fail
      refine (among_lit F2.cx Om [1,1,1,1,2,2,3] 7 _ rfl rfl Om Om #[.int .i64 1,.int .i64 1,.int .i64 1,.int .i64 1,.int .i64 2,.int .i64 2,.int .i64 3] rfl 7).mono ?_;intro e w6 hp;obtain ⟨r,hrL,rfl,h6,g6⟩:=RetAl.out hp;have F3:=F2.step h6 g6;have hr13 : 1 <= r /\ r <= 3:=by simp at hrL;omega
      obtain ⟨N3,rfl⟩ : ∃ N3 : Nat,r = N3:=⟨r.toNat,Om⟩;have hN31 : 1 <= N3:=Om;have hN33 : N3 <= 3:=Om;clear hp F2 h6 g6 hrL hr13 Hs2;go_wp2_with fail
      go_loopg [] N3 (fun gk wr2=>∃ (j3 : Nat) (NA : OA) (nc : Nat) (MA : OA) (mc : Nat),j3 + gk <= N3 /\ N3 <= j3 + gk /\ IB R wr wr2 g b A n c (k + 1010 + 30 * j + 2 + 2 * j3) l NA j3 nc MA j3 mc false)
      case atStart=>exact ⟨0,none,0,none,0,Om,Om,F3⟩
      case round =>
       exact Nonempty.elim (α:=type_of% ?k3) (letI i : Nonempty (type_of% ?k3):=⟨by
        clear F3;obtain ⟨j3,NA,nc,MA,mc,hj1,hj2,F3⟩:=hrel;have C2:=C.grow F3.gr F.hg;by_cases hj3 : j3 < N3
        ·
         have hj3I : (j3 : Int) < N3:=Om;have hjn : j3 + 1 <= 1099511627776:=Om;obtain ⟨⟨ci0,ci1,ci2⟩,cj0,cj1,cj2⟩:=F3.cells;have hlF3:=F3.lt_;obtain ⟨⟨cx0,cx1,cx2,cx3,cx4,cx5⟩,cy0,cy1,cy2,cy3,cy4,cy5⟩:=C2.cells;have hlC2:=C2.lt_;go_upto_region 15 with fail
         go_region_law (first | (go_simp;go_at_call 56;with_reducible refine (pick_cx F3.drew.cx en Om Om Om).mono ?_;intro e w8 hp;obtain ⟨v8,⟨hv0,hv1⟩,rfl,h8,g8⟩:=F3.drew.cx.pick hp;have F8:=F3.drew.step h8 g8;obtain ⟨⟨di0,di1,di2⟩,dj0,dj1,dj2⟩:=F8.cells;have hlF8:=F8.lt_;have C8:=C.grow F8.gr F.hg;obtain ⟨⟨dx0,dx1,dx2,dx3,dx4,dx5⟩,dy0,dy1,dy2,dy3,dy4,dy5⟩:=C8.cells;have hlC8:=C8.lt_;have T8:=F.th.grow F8.gr (F.th.low_ F.hg);obtain ⟨i8,rfl⟩ : ∃ i : Nat,v8 = i:=⟨v8.toNat,Om⟩;have hi8 : i8 < en:=Om;have hi8I : (i8 : Int) < en:=Om;obtain ⟨z8,s8,ez8,hz8,hc8,hs8⟩:=C8.sE.name T8 hi8;obtain rfl : zE = z8:=(by simpa using ez8);have F10:=F8.below (bAlloc (Below.refl _ _) (.cells #[.string s8] 9));obtain ⟨nl,hnl,hnext⟩:=F10.pushN) | (refine app_str rfl _ _ F10.lt_ rfl rfl hjn rfl hnl (newT _ s8) ?_;intro A' c' w7 ho hg hd;obtain ⟨hz7,F7⟩:=hnext A' c' w7 s8 hs8 ho hg hd;obtain ⟨⟨y0,y1,y2⟩,x0,x1,x2⟩:=blk3 hz7;have hlt7:=(Array.getElem?_eq_some_iff.1 hz7).1))
         all_goals
          have FF:=F7;clear F7 hnext ho hg hd hz7 y0 y1 y2 x0 x1 x2 hlt7 hnl F10;generalize w7.setCell ⟨b,0,none⟩ (.slice A' (j3 + 1) c') = w9 at *;obtain ⟨⟨k0',k1',k2'⟩,m0',m1',m2'⟩:=FF.cells;have hlt9:=FF.lt_;have F11:=FF.below (bAlloc (Below.refl _ _) (.cells #[.int .i64 0] 3));obtain ⟨ml,hml,hnext⟩:=F11.pushM;go_wp2_with (at_builtin;(refine wpl_step fun E=>?_);refine app_int rfl _ _ F11.lt_ rfl rfl hjn rfl hml (newI _ 0) ?_;intro A2 c2' w11 ho hg hd;obtain ⟨hz7,F12⟩:=hnext A2 c2' w11 _ ho hg hd;obtain ⟨⟨y0,y1,y2⟩,x0,x1,x2⟩:=blk3 hz7;have hlt7:=(Array.getElem?_eq_some_iff.1 hz7).1)
          go_roundg (gk - 1)
          case measure=>omega
          case rel=>exact ⟨j3 + 1,A',c',A2,c2',Om,Om,F12.mono Om⟩
        ·
         have hj3I : ¬ (j3 : Int) < N3:=Om;obtain rfl : j3 = N3:=Om;have G:=F.step F3.cx F3.gr;obtain ⟨⟨ci0,ci1,ci2⟩,cj0,cj1,cj2⟩:=F3.cells;have hlF3:=F3.lt_;obtain ⟨⟨cx0,cx1,cx2,cx3,cx4,cx5⟩,cy0,cy1,cy2,cy3,cy4,cy5⟩:=C2.cells;have hlC2:=C2.lt_;have hp1 : p + 1 <= 1099511627776:=Om;have hp2 : p + 1 <= 1000:=Om;have hp3 : p <= 1000:=Om;have cI1:=itOwn_any wr.drew I G.drew.th G.drew.ol hp3;have cP1:=fun (J : OA) (cj : Nat) (κ2 : Kf) (x2 : World) (T2 : Th wr.drew.heap.size κ2 (ext wr.drew x2)) (O2 : OL wr.drew.heap.size κ2 1 (ext wr.drew x2) J p cj)=>F3.drew.pushL (ext_below wr.drew x2) T2 O2 (Nat.le_refl _) hN31 Om
         have hBI : Below wr.heap.size wr (wr.alloc (.cells #[.slice NA j3 nc,.slice MA j3 mc,.bool false] 61)).drew:=by repeat first | exact .refl _ _ | assumption | refine bExt ?_ _ | refine bAlloc ?_ _ | refine bDrewN ?_ _ | refine bDrew ?_ | refine bSet ?_ (by first | exact Nat.le_refl _ | omega | (simp <;> omega)) _
         have cI2:=itOwn_any (wr.alloc (.cells #[.slice NA j3 nc,.slice MA j3 mc,.bool false] 61)).drew I (G.below hBI).th (G.below hBI).ol hp3;have cP2:=fun (J : OA) (cj : Nat) (κ2 : Kf) (x2 : World) (T2 : Th (wr.alloc (.cells #[.slice NA j3 nc,.slice MA j3 mc,.bool false] 61)).drew.heap.size κ2 (ext (wr.alloc (.cells #[.slice NA j3 nc,.slice MA j3 mc,.bool false] 61)).drew x2)) (O2 : OL (wr.alloc (.cells #[.slice NA j3 nc,.slice MA j3 mc,.bool false] 61)).drew.heap.size κ2 1 (ext (wr.alloc (.cells #[.slice NA j3 nc,.slice MA j3 mc,.bool false] 61)).drew x2) J p cj)=>F3.pushL (hBI.trans ((ext_below (wr.alloc (.cells #[.slice NA j3 nc,.slice MA j3 mc,.bool false] 61)).drew x2).mono hBI.size)) T2 O2 hBI.size hN31 Om
         have hl71:=fun (x2 : World)=>Nat.le_trans F3.drew.lt_ (ext_below wr.drew x2).size
         have hl72:=fun (x2 : World)=>Nat.le_trans F3.lt_ (hBI.trans ((ext_below (wr.alloc (.cells #[.slice NA j3 nc,.slice MA j3 mc,.bool false] 61)).drew x2).mono hBI.size)).size
         have hR1:=fun (x2 : World)=>newItem (ext wr.drew x2) (.slice NA j3 nc) (.slice MA j3 mc) (.bool false)
         have hR2:=fun (x2 : World)=>((newItem wr (.slice NA j3 nc) (.slice MA j3 mc) (.bool false)).below (bDrew (Below.refl _ _))).below (ext_below (wr.alloc (.cells #[.slice NA j3 nc,.slice MA j3 mc,.bool false] 61)).drew x2)
         go_upto_region 17 with fail
         go_cut [10] from 62 to 67 (fun v wx=>∃ (J : OA) (cj : Nat) (κ2 : Kf),v = .slice J (p + 1) cj /\ LS R w1 wx g A n c (k + 1010 + 30 * j + 10) l κ 1 I p cp /\ CX w1.heap.size κ wx bx (some ⟨zE,0,none⟩) en ec LA ln lc q0 q1 q2 q3 /\ LS R w1 wx g A n c (k + 1010 + 30 * j + 10) l κ2 1 J (p + 1) cj /\ CX w1.heap.size κ2 wx bx (some ⟨zE,0,none⟩) en ec LA ln lc q0 q1 q2 q3)
         case first =>
          go_region_law (first | ((try go_simp);go_at_call 123;first | ((with_reducible refine cI1.mono ?_);rintro e w5 ⟨J,cj,κ2,x2,rfl,rfl,T2,O2⟩;obtain ⟨xs,q1,hpush⟩:=cP1 J cj κ2 x2 T2 O2;have q1':=q1.below (bAlloc (Below.refl _ _) (.cells #[.slice NA j3 nc,.slice MA j3 mc,.bool false] 61));have hR:=hR1 x2;have hW4:=bAlloc (Below.refl (ext wr.drew x2).heap.size (ext wr.drew x2)) (.cells #[.slice NA j3 nc,.slice MA j3 mc,.bool false] 61);have hl7:=hl71 x2;have GG:=G.drew;have CC:=C2.below (bDrew (Below.refl _ _))) | ((with_reducible refine cI2.mono ?_);rintro e w5 ⟨J,cj,κ2,x2,rfl,rfl,T2,O2⟩;obtain ⟨xs,q1,hpush⟩:=cP2 J cj κ2 x2 T2 O2;have q1':=q1;have hR:=hR2 x2;have hW4:=Below.refl (ext (wr.alloc (.cells #[.slice NA j3 nc,.slice MA j3 mc,.bool false] 61)).drew x2).heap.size (ext (wr.alloc (.cells #[.slice NA j3 nc,.slice MA j3 mc,.bool false] 61)).drew x2);have hl7:=hl72 x2;have GG:=G;have CC:=C2)) | (refine app_item rfl _ _ (Nat.le_trans hl7 hW4.size) rfl rfl hp1 rfl q1' hR (by simp [Value.oneCell']) ?_;intro A' c' w7 ho hg hd;obtain ⟨⟨κ3,T3,O3⟩,hb7⟩:=hpush A' c' _ w7 hW4 ho hg hd;have G7:=GG.below hb7;have C7:=CC.below hb7) | ((try go_simp);go_at_call 170;(with_reducible refine (pgLate_any _ _ T3 O3 hp2).mono ?_);rintro e w8 ⟨J2,cj2,κ4,x4,rfl,rfl,T4,O4⟩))
          all_goals
           have hb8:=ext_below w7 x4;have G8:=G7.below hb8;have C8:=C7.below hb8;have S8:=G7.swap G8.cx (grownBy_of_below hb8) T4 O4;have D8:=(C7.kx_ G7.th (Kx.km_ w7.heap.size κ κ4)).below hb8;go_wp2;go_meet;exact ⟨J2,cj2,_,rfl,G8.mono Om,C8,S8.mono Om,D8⟩
         case rest =>
          obtain ⟨J,cj,κ2,rfl,F4,C4,F5,C5⟩:=hcut;clear G F3 C2 F C ci0 ci1 ci2 cj0 cj1 cj2 hlF3 cx0 cx1 cx2 cx3 cx4 cx5 cy0 cy1 cy2 cy3 cy4 cy5 hlC2;obtain ⟨els,lims,hcd,hel,hll⟩:=codeR_of F5.th C5.sE C5.sL;obtain ⟨its,hits,hil⟩:=its_of F5.th F5.ol Om;obtain ⟨⟨ex0,ex1,ex2,ex3,ex4,ex5⟩,ey0,ey1,ey2,ey3,ey4,ey5⟩:=C5.cells;have hlC5:=C5.lt_;go_wp2_with fail
          refine (pgGood_any _ _ _ en ln ec lc els lims q0 q1 q2 q3 hcd J (p + 1) cj its hits).mono ?_;rintro e w9 ⟨bv,x9,rfl,rfl⟩;have hb9:=ext_below wc x9;have F4:=F4.below hb9;have C4:=C4.below hb9;have F5:=F5.below hb9;have C5:=C5.below hb9;clear hcd hits hb9 ex0 ex1 ex2 ex3 ex4 ex5 ey0 ey1 ey2 ey3 ey4 ey5 hlC5;generalize ext wc x9 = w9 at *
          cases bv
          ·
           go_wp2_with fail
           refine (one_cx F4.cx 30 Om Om Om).mono ?_;rintro e w10 ⟨bo,rfl,hC10,g10⟩;have h10:=F4.cx.grow hC10 g10;have F4:=F4.step h10 g10;have C4:=C4.grow g10 F4.hg;have F5:=F5.step h10 g10;have C5:=C5.grow g10 F5.hg;clear hC10 g10 h10
           cases bo
           ·
            have eq1 : IntKind.i64.wrap ((q : Int) - 1) = ((q - 1 : Nat) : Int):=by rw [IntWalk.i64_in _ Om];omega
            go_wp2;go_roundw
            case rel=>exact ⟨q - 1,j + 1,κ,I,p,cp,Om,Om,rfl,rfl,F4.mono Om,C4⟩
            case measure=>simp [intOf];omega
           ·
            have eq1 : IntKind.i64.wrap ((q : Int) - 1) = ((q - 1 : Nat) : Int):=by rw [IntWalk.i64_in _ Om];omega
            go_wp2;go_roundw
            case rel=>exact ⟨q - 1,j + 1,κ2,J,p + 1,cj,Om,Om,rfl,rfl,F5.mono Om,C5⟩
            case measure=>simp [intOf];omega
          ·
           have eq1 : IntKind.i64.wrap ((q : Int) - 1) = ((q - 1 : Nat) : Int):=by rw [IntWalk.i64_in _ Om];omega
           go_wp2;go_roundw
           case rel=>exact ⟨q - 1,j + 1,κ2,J,p + 1,cj,Om,Om,rfl,rfl,F5.mono Om,C5⟩
           case measure=>simp [intOf];omega
        ⟩;by exact inferInstanceAs (Nonempty _)) (fun h=>h)
     ·
      obtain rfl : q = 0:=Om;obtain ⟨⟨ex0,ex1,ex2,ex3,ex4,ex5⟩,ey0,ey1,ey2,ey3,ey4,ey5⟩:=C.cells;have hlC:=C.lt_;have zz:=heap_kept z0 F.gr Om;obtain ⟨⟨y0,y1,y2,y3,y4,y5⟩,x0,x1,x2,x3,x4,x5⟩:=blk6 zz;have hlr:=(Array.getElem?_eq_some_iff.1 zz).1;have hkr : (κ w.heap.size).1 = 0:=F.th.low_ Om;have hIr : blkOf I ≠ some w.heap.size:=fun e=>by have:=(F.ol.blk e).1;omega
      have FB:=F.rebase gg0 hgl;go_wp2;refine bodyPost_ret (v:=.tuple #[.agg #[.slice (some ⟨zE,0,none⟩) en ec,.slice LA ln lc,.int .i64 q0,.int .i64 q1,.int .i64 q2,.int .i64 q3],.slice I p cp]) (by simp [results,Tryz.results121,go_sem,ex0,ex1,ex2,ex3,ex4,ex5,y0,y1,y2,y3,y4,y5,x0,x1,x2,x3,x4,x5,hlr]) rfl ?_;exact ⟨_,en,ec,LA,ln,lc,q0,q1,q2,q3,I,p,cp,κ,rfl,((((((FB.set0 (Nat.le_refl _) hkr hIr 0 _).set0 (Nat.le_refl _) hkr hIr 1 _).set0 (Nat.le_refl _) hkr hIr 2 _).set0 (Nat.le_refl _) hkr hIr 3 _).set0 (Nat.le_refl _) hkr hIr 4 _).set0 (Nat.le_refl _) hkr hIr 5 _).mono Om,C.sE,C.sL,Om,Om,Om⟩
     ⟩;by exact inferInstanceAs (Nonempty _)) (fun h=>h)
   ⟩;by exact inferInstanceAs (Nonempty _)) (fun h=>h)
section
variable {R w w0 W W' : World} {g b n c k k' m p q t : Nat} {A I NA MA : OA} {l : List Int} {κ κ' κ2 : Kf} {EA : OA} {en ec : Nat} {LA : OA} {ln lc : Nat} {q0 q1 q2 q3 : Int} {nn nc mn mc : Nat} {lt : Bool}
theorem Ow.uniq {e s base base' n0 c0 : Nat} {W0 : World} {X : OA} {xs ys : List Value} (h : Ow e s base W0 X n0 c0 xs) (h' : Ow e s base' W0 X n0 c0 ys) : xs = ys:=by
 have h1:=Ow.len h;have h2:=Ow.len h';refine List.ext_getElem? (fun j=>?_)
 rcases Nat.lt_or_ge j (n0 * s) with hj | hj
 ·
  obtain ⟨z,rfl,_⟩:=Ow.form_ h (by
   rcases Nat.eq_zero_or_pos n0 with h0 | h0
   ·
    subst h0;omega
   ·
    exact h0)
  rw [<- Ow.cell_ h j hj,<- Ow.cell_ h' j hj]
 ·
  rw [List.getElem?_eq_none Om,List.getElem?_eq_none Om]
theorem LS.fin {u me ml : Nat} (F : LS R w W g A n c k l κ m I p q) (gg : w0.grownBy w (some g)) (hsz : w0.heap.size + 1 <= w.heap.size) (hgl : g < w0.heap.size) (sE : SK 3 κ EA en ec) (sL : SK 1 κ LA ln lc) (hk : k <= k') (hp : p <= u) (h1 : me <= en) (h2 : ml <= ln) :
  RetPr R w0 g A n c k' l m u me ml (.returned (.tuple #[.agg #[.slice EA en ec,.slice LA ln lc,.int .i64 q0,.int .i64 q1,.int .i64 q2,.int .i64 q3],.slice I p q])) ((((((W.setCell ⟨w0.heap.size,0,none⟩ (.slice EA en ec)).setCell ⟨w0.heap.size,1,none⟩ (.slice LA ln lc)).setCell ⟨w0.heap.size,2,none⟩ (.int .i64 q0)).setCell ⟨w0.heap.size,3,none⟩ (.int .i64 q1)).setCell ⟨w0.heap.size,4,none⟩ (.int .i64 q2)).setCell ⟨w0.heap.size,5,none⟩ (.int .i64 q3)):=by
 have hkr : (κ w0.heap.size).1 = 0:=F.th.low_ Om;have hIr : blkOf I ≠ some w0.heap.size:=fun e=>by have:=(F.ol.blk e).1;omega
 have FB:=F.rebase gg hgl;exact ⟨EA,en,ec,LA,ln,lc,q0,q1,q2,q3,I,p,q,κ,rfl,((((((FB.set0 (Nat.le_refl _) hkr hIr 0 _).set0 (Nat.le_refl _) hkr hIr 1 _).set0 (Nat.le_refl _) hkr hIr 2 _).set0 (Nat.le_refl _) hkr hIr 3 _).set0 (Nat.le_refl _) hkr hIr 4 _).set0 (Nat.le_refl _) hkr hIr 5 _).mono hk,sE,sL,hp,h1,h2⟩
theorem LS.beside (F : LS R w W g A n c k l κ m I p q) (hX : Cx R W' g A n c k' l) (hg : W.grownBy W' (some g)) (hT : Th W.heap.size κ2 W') : LS R w W' g A n c k' l (km W.heap.size κ κ2) m I p q :=
 ⟨hX,F.gr.trans hg,F.hg,F.th.merge hg (F.th.low_ F.hg) F.gr.size hT,(F.ol.kx F.th (Kx.km_ _ _ _)).row hg (fun z hz e=>by injection e with e;have:=(F.ol.blk hz).1;have:=F.hg;omega)⟩
theorem OL.eqK {base : Nat} (h : OL base κ m W I p q) (he : ∀ z,(κ z).1 ≠ 0 -> κ' z = κ z) (hI : ∀ z,blkOf I = some z -> (κ' z).1 = 0) : OL base κ' m W I p q:=by
 obtain ⟨xs,r1,r2,r3⟩:=h;refine ⟨xs,r1,hI,fun j hj=>?_⟩;obtain ⟨NA',nn',nc',MA',mn',mc',lt',s1,s2,s3,s4,s5,s6⟩:=r3 j hj;exact ⟨NA',nn',nc',MA',mn',mc',lt',s1,s2,s3,s4.eqK (fun z _ hz=>he z hz) Om,s5.eqK (fun z _ hz=>he z hz) Om,s6⟩
structure FP (R w W : World) (g b : Nat) (A : OA) (n c k : Nat) (l : List Int) (κ : Kf) (EA : OA) (en ec : Nat) (LA : OA) (ln lc : Nat) (q0 q1 q2 q3 : Int) (m : Nat) (I : OA) (p q : Nat) : Prop where
 cb : CB R w W g b A n c k l κ EA en ec LA ln lc q0 q1 q2 q3
 ol : OL w.heap.size κ m W I p q
 ib : blkOf I ≠ some b
 iE : ∀ z,blkOf I = some z -> blkOf EA ≠ some z
 iL : ∀ z,blkOf I = some z -> blkOf LA ≠ some z
theorem FP.step (F : FP R w W g b A n c k l κ EA en ec LA ln lc q0 q1 q2 q3 m I p q) (hX : Cx R W' g A n c k' l) (hg : W.grownBy W' (some g)) : FP R w W' g b A n c k' l κ EA en ec LA ln lc q0 q1 q2 q3 m I p q :=
 ⟨F.cb.step hX hg,F.ol.row hg (fun z hz e=>by injection e with e;have:=(F.ol.blk hz).1;have:=F.cb.hg;omega),F.ib,F.iE,F.iL⟩
theorem FP.below (F : FP R w W g b A n c k l κ EA en ec LA ln lc q0 q1 q2 q3 m I p q) (hb : Below W.heap.size W W') : FP R w W' g b A n c k l κ EA en ec LA ln lc q0 q1 q2 q3 m I p q:=F.step (F.cb.cx.below hb) (grownBy_of_below hb)
theorem FP.mono (F : FP R w W g b A n c k l κ EA en ec LA ln lc q0 q1 q2 q3 m I p q) (hk : k <= k') : FP R w W g b A n c k' l κ EA en ec LA ln lc q0 q1 q2 q3 m I p q:=⟨F.cb.mono hk,F.ol,F.ib,F.iE,F.iL⟩
theorem FP.withK (F : FP R w W g b A n c k l κ EA en ec LA ln lc q0 q1 q2 q3 m I p q) (hB : Below W.heap.size W W') (T : Th w.heap.size κ' W') (hx : Kx W.heap.size κ κ') : FP R w W' g b A n c k l κ' EA en ec LA ln lc q0 q1 q2 q3 m I p q :=
 ⟨F.cb.withK hB T hx,(F.ol.kx F.cb.th hx).below hB,F.ib,F.iE,F.iL⟩
theorem FP.pushE (F : FP R w W g b A n c k l κ EA en ec LA ln lc q0 q1 q2 q3 m I p q) : ∃ el,Ow 112 4 w.heap.size W EA en ec (elCells el) /\ ∀ (o : Obj) (A' : OA) (c' : Nat) (W' : World) (e : El),e.1.size <= 100 -> Ow 112 4 w.heap.size W' A' (en + 1) c' (elCells (el ++ [e])) -> (W.alloc o).grownBy W' (blkOf EA) -> (blkOf A' = blkOf EA ∨ blkOf A' = some (W.alloc o).heap.size) ->
  (W'.heap[b]? = some (oC EA en ec LA ln lc q0 q1 q2 q3)) /\ FP R w (W'.setCell ⟨b,0,none⟩ (.slice A' (en + 1) c')) g b A n c k l κ A' (en + 1) c' LA ln lc q0 q1 q2 q3 m I p q:=by
 obtain ⟨el,o1,s1⟩:=F.cb.oE;refine ⟨el,o1,fun o A' c' W' e he ho hg hd=>?_⟩;have F2:=F.below (bAlloc (Below.refl _ W) o);obtain ⟨el2,o2,hn⟩:=F2.cb.pushE;have heq : elCells el2 = elCells el:=by
  have h1:=Ow.below o1 (bAlloc (Below.refl _ W) o);exact Ow.uniq o2 h1
 have e2 : elCells (el2 ++ [e]) = elCells (el ++ [e]):=by simp only [elCells,List.flatMap_append] at heq ⊢;rw [heq]
 obtain ⟨h3,h4⟩:=hn A' c' W' e he (by rw [e2];exact ho) hg hd;refine ⟨h3,h4,(F2.ol.row hg (fun z hz e=>F2.iE z hz e.symm)).row (gSetM W' b 0 _) (fun z hz e=>F.ib (by rw [hz];exact e)),F.ib,fun z hz e=>?_,F.iL⟩
 rcases hd with hd | hd
 ·
  rw [hd] at e;exact F.iE z hz e
 ·
  rw [hd] at e;injection e with e;have:=(F2.ol.blk hz).2.1;omega
theorem FP.pushIt {W2 : World} (F : FP R w W g b A n c k l κ EA en ec LA ln lc q0 q1 q2 q3 m I p q) (hW : Below W.heap.size W W2) (hi : ItO W.heap.size m W2 NA nn nc MA mn mc) : ∃ xs,Ow 61 3 w.heap.size W2 I p q xs /\ ∀ (I' : OA) (c' : Nat) (W4 w' : World),Below W2.heap.size W2 W4 -> Ow 61 3 w.heap.size w' I' (p + 1) c' (xs ++ [.slice NA nn nc,.slice MA mn mc,.bool lt]) -> W4.grownBy w' (blkOf I) -> (blkOf I' = blkOf I ∨ blkOf I' = some W4.heap.size) ->
  ∃ κ',Kx W.heap.size κ κ' /\ FP R w w' g b A n c k l κ' EA en ec LA ln lc q0 q1 q2 q3 m I' (p + 1) c':=by
 obtain ⟨xs,h1,h2⟩:=OL.pushNew (lt:=lt) (row:=none) F.cb.th F.ol (grownBy_of_below hW) (fun b e=>by cases e) hi (Nat.le_refl _) F.cb.le;refine ⟨xs,h1,fun I' c' W4 w' a1 a2 a3 a4=>?_⟩;obtain ⟨κ',b1,b2,b3⟩:=h2 I' c' W4 w' a1 a2 a3 a4;have hB:=hW.trans (a1.mono hW.size);have C4:=F.cb.below hB;have hIz : ∀ z,blkOf I = some z -> w.heap.size <= z /\ z ≠ b /\ (κ z).1 = 0:=fun z hz=>⟨(F.ol.blk hz).1,fun e=>F.ib (e ▸ hz),(F.ol.blk hz).2.2⟩
 obtain ⟨f1,f2,f3,f4⟩:=C4.grown a3 hIz;obtain ⟨el0,o10,_⟩:=F.cb.oE;obtain ⟨ll0,o20⟩:=F.cb.oL;obtain ⟨el,o1,s1⟩:=C4.oE;obtain ⟨ll,o2⟩:=C4.oL;have hbW:=F.cb.lt_;have hsz:=hB.size;have hn : ∀ (X : OA),(∀ z,blkOf I = some z -> blkOf X ≠ some z) -> blkOf X = none ∨ blkOf X ≠ blkOf I:=fun X hX=>by
  cases hz : blkOf X with
  | none=>exact .inl rfl
  | some z=>exact .inr fun e=>hX z e.symm hz
 have hnew : ∀ (X : OA),(∀ z,blkOf I = some z -> blkOf X ≠ some z) -> (∀ z,blkOf X = some z -> z < W.heap.size) -> ∀ z,blkOf I' = some z -> blkOf X ≠ some z:=fun X h1 h2 z hz e=>by
  rcases a4 with h | h
  ·
   exact h1 z (h ▸ hz) e
  ·
   rw [h] at hz;injection hz with hz;have:=h2 z e;omega
 refine ⟨κ',b1,⟨f1,f2,F.cb.hr,F.cb.hg,f3,b2,⟨el,Ow.kept o1 a3 (hn EA F.iE),s1⟩,⟨ll,o2.kept a3 (hn LA F.iL)⟩,F.cb.ne,F.cb.nE,F.cb.nL,fun z e=>by rw [b1 z (Ow.blk o10 e).2];exact F.cb.kE z e,fun z e=>by rw [b1 z (o20.blk e).2];exact F.cb.kL z e,by rw [b1 b hbW];exact F.cb.kb⟩,b3,fun e=>?_,hnew EA F.iE (fun z e=>(Ow.blk o10 e).2),hnew LA F.iL (fun z e=>(o20.blk e).2)⟩
 rcases a4 with h | h
 ·
  exact F.ib (h ▸ e)
 ·
  rw [h] at e;injection e with e;omega
theorem FP.toLS (F : FP R w W g b A n c k l κ EA en ec LA ln lc q0 q1 q2 q3 m I p q) (h1 : en <= 1000) (h2 : ln <= 1000) : ∃ κ',LS R w W g A n c k l κ' m I p q /\ CX w.heap.size κ' W b EA en ec LA ln lc q0 q1 q2 q3:=by
 obtain ⟨el,o1,s1⟩:=F.cb.oE;obtain ⟨ll,o2⟩:=F.cb.oL;obtain ⟨κ1,x1,T1,S1,e1⟩:=F.cb.th.upE (s:=w.heap.size) o1 s1 h1 (fun z hz=>(Ow.blk o1 hz).1);obtain ⟨κ2,x2,T2,S2,e2⟩:=T1.upI (s:=w.heap.size) o2 h2 (fun z hz=>(o2.blk hz).1);have he : ∀ z,blkOf EA ≠ some z -> blkOf LA ≠ some z -> κ2 z = κ z:=fun z h3 h4=>(e2 z h4).trans (e1 z h3)
 have hk : ∀ z,(κ z).1 ≠ 0 -> κ2 z = κ z:=fun z hz=>he z (fun e=>hz (F.cb.kE z e)) (fun e=>hz (F.cb.kL z e))
 have hIz : ∀ z,blkOf I = some z -> (κ2 z).1 = 0:=fun z hz=>by rw [he z (F.iE z hz) (F.iL z hz)];exact (F.ol.blk hz).2.2
 have hb : (κ2 b).1 = 0:=by rw [he b F.cb.nE F.cb.nL];exact F.cb.kb
 have S1' : SK 3 κ2 EA en ec:=by
  rcases S1 with S1 | ⟨z,rfl,hz⟩
  ·
   exact .inl S1
  ·
   refine .inr ⟨z,rfl,(e2 z fun e=>?_).trans hz⟩
   rcases F.cb.ne with h | h
   ·
    cases h
   ·
    exact h e.symm
 exact ⟨κ2,⟨F.cb.cx,F.cb.gr,F.cb.hg,T2,F.ol.eqK hk hIz⟩,F.cb.hb,F.cb.hr,hb,S1',S2⟩
end
theorem fullProgramme_any {R w : World} {g n c k : Nat} {A : OA} {l : List Int} (h : Cx R w g A n c k l) (hk : k <= 700000) :
  Calls Tryz.prog 172 #[.pointer (some ⟨g,0,none⟩)] w (RetPr R w g A n c (k + 20) l 1 15 1 5):=by
 have hgl:=h.cur.lt;have h0:=h.below (bAlloc (Below.refl _ w) zCode);have z0:=heap_alloc_new w zCode;have gg0:=World.grownBy_alloc w zCode (some g);have hsz0 : (w.alloc zCode).heap.size = w.heap.size + 1:=by simp
 go_enter Tryz.func172,Tryz.ntmps172;simp only [zCode] at h0 z0 gg0 hsz0;go_upto_region 1 with fail;generalize w.alloc (oC none 0 0 none 0 0 0 0 0 0) = w1 at *;have hBl:=bAlloc (Below.refl _ w1) (.cells #[.int .i64 9,.int .i64 9,.int .i64 9,.int .i64 9,.int .i64 9] 3);have oL:=OwI.lit_ (R:=w1) (Below.refl _ w1) [9,9,9,9,9] (by simp [maxLen]) #[.int .i64 9,.int .i64 9,.int .i64 9,.int .i64 9,.int .i64 9] rfl;have F0 : FP R w1 ((w1.alloc (.cells #[.int .i64 9,.int .i64 9,.int .i64 9,.int .i64 9,.int .i64 9] 3)).alloc (.cells #[.slice none 0 0,.slice (some ⟨w1.heap.size,0,none⟩) 5 5,.int .i64 1,.int .i64 0,.int .i64 80,.int .i64 0] 27)) g (w1.alloc (.cells #[.int .i64 9,.int .i64 9,.int .i64 9,.int .i64 9,.int .i64 9] 3)).heap.size A n c k l k0 none 0 0 (some ⟨w1.heap.size,0,none⟩) 5 5 1 0 80 0 1 none 0 0 :=
  ⟨CB.new (h0.below hBl) (grownBy_of_below hBl) Om ⟨⟨[],Ow.nil_,fun x hx=>by cases hx⟩,⟨_,oL⟩,.inl rfl,Om,Om⟩,OL.nil_,(fun e=>by cases e),(fun z e=>by cases e),(fun z e=>by cases e)⟩
 rw [show (w1.alloc (.cells #[.int .i64 9,.int .i64 9,.int .i64 9,.int .i64 9,.int .i64 9] 3)).heap.size = w1.heap.size + 1 by simp] at F0;simp only [hsz0] at F0;clear hBl oL h0;go_wp2_with fail
 generalize (w1.alloc (.cells #[.int .i64 9,.int .i64 9,.int .i64 9,.int .i64 9,.int .i64 9] 3)).alloc (.cells #[.slice none 0 0,.slice (some ⟨w.heap.size + 1,0,none⟩) 5 5,.int .i64 1,.int .i64 0,.int .i64 80,.int .i64 0] 27) = W0 at *;generalize (some ⟨w.heap.size + 1,0,none⟩ : OA) = LA at *;generalize hbb : w.heap.size + 1 + 1 = b at *;have Hbb:=Lib.hid hbb;clear hbb;refine (pick_cx F0.cb.cx 2 Om Om Om).mono ?_;intro e w5 hp;obtain ⟨v2,⟨ha0,ha1⟩,rfl,h5,g5⟩:=F0.cb.cx.pick hp;have F5:=F0.step h5 g5;obtain ⟨v,rfl⟩ : ∃ v : Nat,v2 = v:=⟨v2.toNat,Om⟩;obtain ⟨T,hT,hT1,hT2⟩ : ∃ T : Nat,14 + v = T /\ 14 <= T /\ T <= 15:=⟨_,rfl,Om,Om⟩;have e1 : wrap64 (14 + (v : Int)) = T:=by rw [IntWalk.wrap64_in _ Om];omega
 clear hp h5 g5 F0 ha0 ha1 hT;go_wp2_with fail
 generalize wrap64 (14 + (v : Int)) = i1 at *;subst e1;refine (elementNames_any w5).mono ?_;rintro e w6 ⟨rfl,x,rfl,oN⟩;have hB6:=ext_below w5 x;obtain ⟨κ1,hx1,T1,S1,_⟩:=(F5.cb.th.below hB6).upS (s:=w5.heap.size) (oN.mono F5.cb.le) elNames_small Om (fun z hz=>(oN.blk hz).1);have F6:=F5.withK hB6 T1 hx1;clear F5 oN T1 hx1 hB6;generalize ext w5 x = W6 at *;generalize w5.heap.size = nb at *;go_wp2_with fail
 go_loopw [5,7,8,16] (fun s _ _ i wr=>∃ (j : Nat) (κ : Kf) (EA : OA) (ec : Nat) (I : OA) (p cp : Nat),j <= 24 /\ i = .int .i64 j /\ s = .slice I p cp /\ p <= j /\ p <= 15 /\ SK 2 κ (some ⟨nb,0,none⟩) 24 24 /\ FP R w1 wr g b A n c (k + 10) l κ EA j ec LA 5 5 1 0 80 0 1 I p cp) (fun _ _ _ i _=>24 - (intOf i).toNat)
 case atStart=>exact ⟨0,κ1,none,0,none,0,0,Om,rfl,rfl,Om,Om,S1,F6.mono Om⟩
 case round =>
  exact Nonempty.elim (α:=type_of% ?k1) (letI i : Nonempty (type_of% ?k1):=⟨by
   clear F6 S1;obtain ⟨j,κ,EA,ec,I,p,cp,hj,rfl,rfl,hpj,hp15,S1,F⟩:=hrel;by_cases hlt24 : j < 24
   ·
    have hltI : (j : Int) < 24:=Om;obtain ⟨zN,ezN,_,hzl,_,_,s,hcN,hsN⟩:=S1.strAt F.cb.th hlt24;obtain rfl : nb = zN:=by simpa using ezN
    have hen1 : j + 1 <= 1099511627776:=Om;obtain ⟨⟨cx0,cx1,cx2,cx3,cx4,cx5⟩,cy0,cy1,cy2,cy3,cy4,cy5⟩:=F.cb.cells;have hlFcb:=F.cb.lt_;obtain ⟨el,hel,hnext⟩:=F.pushE;go_upto_region 8 with (at_builtin;(refine wpl_step fun E=>?_);refine app_el rfl _ _ (Nat.le_trans F.cb.le (by simp)) rfl rfl hen1 rfl (Ow.below hel (bAlloc (Below.refl _ _) _)) (newEl _ (s,_,0,_)) ?_;intro A2 c2' w11 ho hg hd;obtain ⟨hz7,F12⟩:=hnext _ A2 c2' w11 (s,_,0,_) hsN ho hg hd;obtain ⟨⟨y0,y1,y2,y3,y4,y5⟩,x0,x1,x2,x3,x4,x5⟩:=blk6 hz7;have hlt7:=(Array.getElem?_eq_some_iff.1 hz7).1);have FF:=F12;clear F12 hnext ho hg hd hz7 hel y0 y1 y2 y3 y4 y5 x0 x1 x2 x3 x4 x5 hlt7 cx0 cx1 cx2 cx3 cx4 cx5 cy0 cy1 cy2 cy3 cy4 cy5 hlFcb F;generalize w11.setCell ⟨b,0,none⟩ (.slice A2 (j + 1) c2') = w12 at *;by_cases hjT : j < T
    ·
     have hjTI : (j : Int) < T:=Om;have b1:=bAlloc (Below.refl w12.heap.size w12) (.cells #[.string s] 9);have b2:=bAlloc b1 (.cells #[.int .i64 0] 3);obtain ⟨xs,q1,hpush⟩:=FP.pushIt (lt:=false) FF b2 (its_lit w12 s 0 hsN);have hlw:=FF.cb.le;have hp1 : p + 1 <= 1099511627776:=Om;go_wp2_with (at_builtin;(refine wpl_step fun E=>?_);refine app_item rfl _ _ (Nat.le_trans hlw (by simp only [World.size_alloc];omega)) rfl rfl hp1 rfl (q1.below (bAlloc (Below.refl _ _) _)) (newItemAt (by simp) _ _ _) (by simp [Value.oneCell']) ?_;intro A' c' w' ho hg hd)
     obtain ⟨κ',hkx,F13⟩:=hpush A' c' _ w' (bAlloc (Below.refl _ _) _) ho hg hd;clear hpush q1 ho hg hd;go_roundw
     case rel=>exact ⟨j + 1,κ',A2,c2',A',p + 1,c',Om,by go_num,rfl,Om,Om,S1.kx FF.cb.th Om hkx,F13⟩
     case measure=>simp [intOf];omega
    ·
     have hjTI : ¬ (j : Int) < T:=Om;go_wp2;go_roundw
     case rel=>exact ⟨j + 1,κ,A2,c2',I,p,cp,Om,by go_num,rfl,Om,Om,S1,FF⟩
     case measure=>simp [intOf];omega
   ·
    obtain rfl : j = 24:=Om;obtain ⟨κ2,G,C⟩:=F.toLS Om Om;have zz:=heap_kept z0 G.gr Om;have hp2 : p <= 1000:=Om;have cI:=pgLate_any wr.drew I G.drew.th G.drew.ol hp2;clear F S1;obtain ⟨⟨cx0,cx1,cx2,cx3,cx4,cx5⟩,cy0,cy1,cy2,cy3,cy4,cy5⟩:=C.cells;have hlC:=C.lt_;go_upto_region 11 with fail
    go_region_law ((try go_simp);go_at_call 170;(with_reducible refine cI.mono ?_);rintro e w8 ⟨J2,cj2,κ4,x4,rfl,rfl,T4,O4⟩;have hb8:=ext_below wr.drew x4;have G7:=G.drew;have C7:=C.below (bDrew (Below.refl _ _));have G8:=G7.below hb8;have C8:=C7.below hb8;have S8:=G7.swap G8.cx (grownBy_of_below hb8) T4 O4;have D8:=(C7.kx_ G7.th (Kx.km_ wr.drew.heap.size κ2 κ4)).below hb8;obtain ⟨⟨dx0,dx1,dx2,dx3,dx4,dx5⟩,dy0,dy1,dy2,dy3,dy4,dy5⟩:=D8.cells;have hlD8:=D8.lt_;obtain ⟨⟨y0,y1,y2,y3,y4,y5⟩,x0,x1,x2,x3,x4',x5⟩:=blk6 (heap_kept z0 S8.gr Om);have hlr:=(Array.getElem?_eq_some_iff.1 (heap_kept z0 S8.gr Om)).1)
    all_goals
     go_wp2;refine bodyPost_ret (v:=.tuple #[.agg #[.slice EA 24 ec,.slice LA 5 5,.int .i64 1,.int .i64 0,.int .i64 80,.int .i64 0],.slice J2 p cj2]) (by simp [results,Tryz.results172,go_sem,dx0,dx1,dx2,dx3,dx4,dx5,y0,y1,y2,y3,y4,y5,x0,x1,x2,x3,x4',x5,hlr]) rfl ?_;exact S8.fin gg0 Om hgl D8.sE D8.sL Om Om Om Om
   ⟩;by exact inferInstanceAs (Nonempty _)) (fun h=>h)
end Go.Proofs.YtlfhhkgleapamaaGreatDoor
