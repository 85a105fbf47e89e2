/- Readings that stay; what the reference draws of judged lists. Conditions: none. -/
import Derived.Test.YtlfhhkgleapamaaGreatDoorRDr8
import Derived.Test.YtlfhhkgleapamaaGreatDoorRDraw19
set_option linter.unusedVariables false
set_option linter.unusedSimpArgs false
set_option maxRecDepth 100000
set_option maxHeartbeats 16000000
namespace Go.Proofs.YtlfhhkgleapamaaGreatDoor
open Go.RowKit
inductive Rls (s t : Nat) : World -> World -> Prop
 | refl (w : World) : Rls s t w w
 | step {w W W' : World} {row : Option Nat} : Rls s t w W -> W.grownBy W' row -> (∀ b,row = some b -> b < s ∨ t <= b) -> Rls s t w W'
theorem Rls.trans {s t : Nat} {w W W' : World} (h : Rls s t w W) (h' : Rls s t W W') : Rls s t w W':=by
 induction h' with
 | refl=>exact h
 | step _ hg hr ih=>exact .step ih hg hr
theorem Rls.one {s t : Nat} {w W : World} {row : Option Nat} (hg : w.grownBy W row) (hr : ∀ b,row = some b -> b < s ∨ t <= b) : Rls s t w W:=.step (.refl w) hg hr
theorem Rls.bel {s t : Nat} {w W : World} (hb : Below w.heap.size w W) : Rls s t w W:=.one (row:=none) (grownBy_of_below hb) (fun b e=>by cases e)
theorem Rls.size {s t : Nat} {w W : World} (h : Rls s t w W) : w.heap.size <= W.heap.size:=by
 induction h with
 | refl=>exact Nat.le_refl _
 | step _ hg _ ih=>exact Nat.le_trans ih hg.size
theorem Rls.keep {s t : Nat} {w W : World} (h : Rls s t w W) (ht : t <= w.heap.size) {b : Nat} (h1 : s <= b) (h2 : b < t) : W.heap[b]? = w.heap[b]?:=by
 induction h with
 | refl=>rfl
 | step h0 hg hr ih =>
  have hs:=h0.size;refine (hg.block b Om (fun e=>?_)).trans ih;have:=hr b e.symm;omega
theorem Rls.wide {s s' t t' : Nat} {w W : World} (h : Rls s t w W) (hs : s <= s') (ht : t' <= t) : Rls s' t' w W:=by
 induction h with
 | refl=>exact .refl _
 | step _ hg hr ih=>exact .step ih hg (fun b e=>by have:=hr b e;omega)
theorem Rls.set {s t b : Nat} {w W : World} (h : Rls s t w W) (hb : b < s ∨ t <= b) (j : Nat) (v : Value) : Rls s t w (W.setCell ⟨b,j,none⟩ v):=.step h (gSetM W b j v) (fun q e=>by injection e with e;omega)
theorem Tr.rdK {s : Nat} {w W : World} {A : OA} {n c : Nat} {ll : List (List Int)} (h : Tr (fun z=>s <= z) w A n c ll) (hz : w.heap.size <= W.heap.size) (hk : ∀ b,s <= b -> b < w.heap.size -> W.heap[b]? = w.heap[b]?) : RdM W A n ll:=by
 obtain ⟨h1,_,_,h2⟩:=h;refine ⟨h1,fun hn=>?_⟩;obtain ⟨b,off,e,hlt,hs,hc⟩:=h2 hn;refine ⟨b,off,e,Nat.lt_of_lt_of_le hlt hz,fun j hj=>?_⟩;obtain ⟨B,m,d,q1,q2,q3,q4,q5⟩:=hc j hj;refine ⟨B,m,d,(World.cell?_of_block (hk b hs hlt)).trans q1,⟨q2.1,fun hm=>?_⟩,q3,q4⟩;obtain ⟨b2,o2,rfl,hl2,hc2⟩:=q2.2 hm;exact ⟨b2,o2,rfl,Nat.lt_of_lt_of_le hl2 hz,fun i u hu=>(World.cell?_of_block (hk b2 (q5 b2 rfl).1 hl2)).trans (hc2 i u hu)⟩
def PRs (s t : Nat) (w : World) (EA : OA) (en : Nat) (LA : OA) (ln : Nat) (I : OA) (n2 c2 : Nat) (GA : OA) (gn : Nat) (KA : OA) (kn : Nat) : Prop :=
 ∃ els lims its gg kk,its.length = n2 /\ ∀ W,Rls s t w W -> CodeR W EA en LA ln els lims /\ ItsR W I n2 c2 its /\ RdMk W GA gn KA kn gg kk
theorem PRs.step {s t : Nat} {w W : World} {EA : OA} {en : Nat} {LA : OA} {ln : Nat} {I : OA} {n2 c2 : Nat} {GA : OA} {gn : Nat} {KA : OA} {kn : Nat} (h : PRs s t w EA en LA ln I n2 c2 GA gn KA kn) (hr : Rls s t w W) : PRs s t W EA en LA ln I n2 c2 GA gn KA kn:=by
 obtain ⟨els,lims,its,gg,kk,hl,h⟩:=h;exact ⟨els,lims,its,gg,kk,hl,fun W' h'=>h W' (hr.trans h')⟩
theorem PRs.low {s s' t t' : Nat} {w : World} {EA : OA} {en : Nat} {LA : OA} {ln : Nat} {I : OA} {n2 c2 : Nat} {GA : OA} {gn : Nat} {KA : OA} {kn : Nat} (h : PRs s t w EA en LA ln I n2 c2 GA gn KA kn) (hs : s' <= s) (ht : t <= t') : PRs s' t' w EA en LA ln I n2 c2 GA gn KA kn:=by
 obtain ⟨els,lims,its,gg,kk,hl,h⟩:=h;exact ⟨els,lims,its,gg,kk,hl,fun W hW=>h W (hW.wide hs ht)⟩
theorem ItsR.take {w : World} {I : OA} {n c r : Nat} {its : List It} (h : ItsR w I n c its) (hr : r <= n) : ItsR w I r c (its.take r):=by
 obtain ⟨⟨h1,h2⟩,h3,h4,h5⟩:=h;refine ⟨⟨by rw [List.length_take];omega,fun hr0=>?_⟩,Om,Om,fun x hx=>h5 x (List.mem_of_mem_take hx)⟩;obtain ⟨b,off,e,hlt,hc⟩:=h2 Om;refine ⟨b,off,e,hlt,fun j hj=>?_⟩;have:=hc j Om;rw [List.getElem?_take_of_lt hj];exact this
theorem Ow.rdK {ty s base n c : Nat} {w W : World} {A : OA} {xs : List Value} (h : Ow ty s base w A n c xs) (hz : w.heap.size <= W.heap.size) (hk : ∀ b,base <= b -> b < w.heap.size -> W.heap[b]? = w.heap[b]?) : Rd s W A n xs:=by
 obtain ⟨h1,h2⟩:=h.rd;refine ⟨h1,fun hn=>?_⟩;obtain ⟨b,off,rfl,hlt,hc⟩:=h2 hn;have hb:=(h.blk rfl).1;exact ⟨b,off,rfl,Nat.lt_of_lt_of_le hlt hz,fun j u hu=>(World.cell?_of_block (hk b hb hlt)).trans (hc j u hu)⟩
theorem codeK_of {base n c m d : Nat} {w : World} {κ : Kf} {A B : OA} (hT : Th base κ w) (hA : SK 3 κ A n c) (hB : SK 1 κ B m d) : ∃ els lims,∀ W : World,w.heap.size <= W.heap.size -> (∀ b,base <= b -> b < w.heap.size -> W.heap[b]? = w.heap[b]?) -> CodeR W A n B m els lims:=by
 obtain ⟨h1,els,h2,h3⟩:=hA.els hT;obtain ⟨h4,lims,h5⟩:=hB.ints hT;have hl : els.length = n:=by have:=h2.1;rw [elCells_len] at this;omega
 exact ⟨els,lims,fun W hz hk=>⟨Ow.rdK h2 hz hk,Ow.rdK h5 hz hk,Om,Om,fun x hx=>by have:=h3 x hx;omega⟩⟩
theorem itsK_of {base m n c : Nat} {w : World} {κ : Kf} {I : OA} (hT : Th base κ w) (h : OL base κ m w I n c) (hn : n <= 1099511627776) : ∃ its : List It,its.length = n /\ ∀ W : World,w.heap.size <= W.heap.size -> (∀ b,base <= b -> b < w.heap.size -> W.heap[b]? = w.heap[b]?) -> ItsR W I n c its:=by
 have hex : ∀ j : Nat,∃ it : It,j < n -> ∃ NA nn nc MA mn mc b,I = some ⟨b,0,none⟩ /\ (base <= b /\ b < w.heap.size) /\ w.cell? ⟨b,j * 3,none⟩ = some (.slice NA nn nc) /\ w.cell? ⟨b,j * 3 + 1,none⟩ = some (.slice MA mn mc) /\ w.cell? ⟨b,j * 3 + 2,none⟩ = some (.bool it.2.2) /\ OwT base w NA nn nc it.1 /\ OwI base w MA mn mc it.2.1 /\ (nn <= nc /\ nc <= maxLen) /\ (mn <= mc /\ mc <= maxLen) /\ itSmall it:=fun j=>by
  by_cases hj : j < n
  ·
   obtain ⟨b,NA,nn,nc,MA,mn,mc,lt,h1,h2,hbb,_,h3,h4,h5,_,h6,h7,_⟩:=h.at_ hj;obtain ⟨hn1,sl,ho,hsz⟩:=h6.strs hT;obtain ⟨hn2,il,ho2⟩:=h7.ints hT;refine ⟨(sl,il,lt),fun _=>⟨NA,nn,nc,MA,mn,mc,b,h1,⟨hbb,h2⟩,h3,h4,h5,ho,ho2,ho.cap_,Ow.cap_ ho2,?_⟩⟩;exact ⟨by rw [ho.len];omega,by rw [ho2.len];omega,fun x hx=>by have:=hsz x hx;omega⟩
  ·
   exact ⟨zIt,fun h=>absurd h hj⟩
 obtain ⟨f,hf⟩:=Classical.axiomOfChoice hex;refine ⟨(List.range n).map f,by simp,fun W hz hk=>⟨⟨by simp,fun hn0=>?_⟩,hn,h.cap_.1,fun x hx=>?_⟩⟩
 ·
  obtain ⟨_,_,_,_,_,_,b,hI,hb,_⟩:=hf 0 hn0;have hbk:=hk b hb.1 hb.2;refine ⟨b,0,hI,Nat.lt_of_lt_of_le hb.2 hz,fun j hj=>?_⟩;obtain ⟨NA,nn,nc,MA,mn,mc,b',hI',_,q1,q2,q3,q4,q5,q6,q7,_⟩:=hf j hj;have e : b' = b:=by rw [hI] at hI';simpa using hI'.symm
  subst e;have eg : ((List.range n).map f)[j]?.getD zIt = f j:=by simp [hj]
  rw [eg,Nat.zero_add];exact ⟨NA,nn,nc,MA,mn,mc,(World.cell?_of_block hbk).trans q1,(World.cell?_of_block hbk).trans q2,(World.cell?_of_block hbk).trans q3,Ow.rdK q4 hz hk,Ow.rdK q5 hz hk,q6,q7⟩
 ·
  simp only [List.mem_map,List.mem_range] at hx;obtain ⟨j,hj,rfl⟩:=hx;obtain ⟨NA,nn,nc,MA,mn,mc,b',hI',_,q1,q2,q3,q4,q5,q6,q7,q8⟩:=hf j hj;exact q8
theorem prs_of {R w W : World} {g n c k m p q r : Nat} {A : OA} {l : List Int} {κ : Kf} {EA : OA} {en ec : Nat} {LA : OA} {ln lc : Nat} {I : OA} {GA : OA} {gn gc : Nat} {KA : OA} {kn kc : Nat} {gg kk : List (List Int)} (F : LS R w W g A n c k l κ m I p q) (sE : SK 3 κ EA en ec) (sL : SK 1 κ LA ln lc) (tG : Tr (fun z=>w.heap.size <= z) W GA gn gc gg) (tK : Tr (fun z=>w.heap.size <= z) W KA kn kc kk) (hr : r <= p) (hp : p <= 1099511627776) (hg : gn <= 1099511627776) (hk : kn <= 1099511627776) (hgr : ∀ j,j < gn -> (gg[j]?.getD []).length <= 1099511627776) (hkr : ∀ j,j < kn -> (kk[j]?.getD []).length <= 1099511627776) : PRs w.heap.size W.heap.size W EA en LA ln I r q GA gn KA kn:=by
 obtain ⟨els,lims,hc⟩:=codeK_of F.th sE sL;obtain ⟨its,hil,hi⟩:=itsK_of F.th F.ol hp;refine ⟨els,lims,its.take r,gg,kk,by rw [List.length_take];omega,fun W' h=>?_⟩;have hk':=fun b hb1 hb2=>h.keep (b:=b) (Nat.le_refl _) hb1 hb2
 exact ⟨hc W' h.size hk',(hi W' h.size hk').take hr,⟨tG.rdK h.size hk',tK.rdK h.size hk',hg,hk,hgr,hkr⟩⟩
theorem heap_one {W : World} {z r j : Nat} {o : Obj} (h : W.heap[z]? = some o) (hne : z ≠ r) (v : Value) : (W.setCell ⟨r,j,none⟩ v).heap[z]? = some o:=heap_kept h (gSetM W r j v) hne
theorem heap_two {W : World} {z r : Nat} {o : Obj} (h : W.heap[z]? = some o) (hne : z ≠ r) (v0 v1 : Value) : ((W.setCell ⟨r,0,none⟩ v0).setCell ⟨r,1,none⟩ v1).heap[z]? = some o:=heap_one (heap_one h hne v0) hne v1
theorem heap_six {W : World} {z r : Nat} {o : Obj} (h : W.heap[z]? = some o) (hne : z ≠ r) (v0 v1 v2 v3 v4 v5 : Value) : ((((((W.setCell ⟨r,0,none⟩ v0).setCell ⟨r,1,none⟩ v1).setCell ⟨r,2,none⟩ v2).setCell ⟨r,3,none⟩ v3).setCell ⟨r,4,none⟩ v4).setCell ⟨r,5,none⟩ v5).heap[z]? = some o :=
 heap_one (heap_one (heap_one (heap_one (heap_one (heap_one h hne v0) hne v1) hne v2) hne v3) hne v4) hne v5
theorem c6 {W : World} {b ty : Nat} {x0 x1 x2 x3 x4 x5 : Value} (h : W.heap[b]? = some (.cells #[x0,x1,x2,x3,x4,x5] ty (0,0))) : W.cell? ⟨b,0,none⟩ = some x0 /\ W.cell? ⟨b,1,none⟩ = some x1 /\ W.cell? ⟨b,2,none⟩ = some x2 /\ W.cell? ⟨b,3,none⟩ = some x3 /\ W.cell? ⟨b,4,none⟩ = some x4 /\ W.cell? ⟨b,5,none⟩ = some x5:=(blk6 h).1
theorem c2 {W : World} {b ty : Nat} {x0 x1 : Value} (h : W.heap[b]? = some (.cells #[x0,x1] ty (0,0))) : W.cell? ⟨b,0,none⟩ = some x0 /\ W.cell? ⟨b,1,none⟩ = some x1:=(blk2 h).1
theorem c12 {W : World} {b ty p tz : Nat} {x0 x1 x2 x3 x4 x5 y0 y1 y2 y3 y4 y5 : Value} (h : W.heap[b]? = some (.cells #[x0,x1,x2,x3,x4,x5] ty (0,0))) (k : W.heap[p]? = some (.cells #[y0,y1,y2,y3,y4,y5] tz (0,0))) : W.cell? ⟨b,0,none⟩ = some x0 /\ W.cell? ⟨b,1,none⟩ = some x1 /\ W.cell? ⟨b,2,none⟩ = some x2 /\ W.cell? ⟨b,3,none⟩ = some x3 /\ W.cell? ⟨b,4,none⟩ = some x4 /\ W.cell? ⟨b,5,none⟩ = some x5 /\ W.cell? ⟨p,0,none⟩ = some y0 /\ W.cell? ⟨p,1,none⟩ = some y1 /\ W.cell? ⟨p,2,none⟩ = some y2 /\ W.cell? ⟨p,3,none⟩ = some y3 /\ W.cell? ⟨p,4,none⟩ = some y4 /\ W.cell? ⟨p,5,none⟩ = some y5:=by
 obtain ⟨a0,a1,a2,a3,a4,a5⟩:=c6 h;exact ⟨a0,a1,a2,a3,a4,a5,c6 k⟩
theorem c8 {W : World} {b ty p tz : Nat} {x0 x1 x2 x3 x4 x5 y0 y1 : Value} (h : W.heap[b]? = some (.cells #[x0,x1,x2,x3,x4,x5] ty (0,0))) (k : W.heap[p]? = some (.cells #[y0,y1] tz (0,0))) : W.cell? ⟨b,0,none⟩ = some x0 /\ W.cell? ⟨b,1,none⟩ = some x1 /\ W.cell? ⟨b,2,none⟩ = some x2 /\ W.cell? ⟨b,3,none⟩ = some x3 /\ W.cell? ⟨b,4,none⟩ = some x4 /\ W.cell? ⟨b,5,none⟩ = some x5 /\ W.cell? ⟨p,0,none⟩ = some y0 /\ W.cell? ⟨p,1,none⟩ = some y1:=by
 obtain ⟨a0,a1,a2,a3,a4,a5⟩:=c6 h;exact ⟨a0,a1,a2,a3,a4,a5,c2 k⟩
theorem heap_dr {W : World} {z : Nat} {o : Obj} (h : W.heap[z]? = some o) : W.drew.heap[z]? = some o:=h
theorem CX.store {base bx : Nat} {κ κ' : Kf} {W : World} {EB : OA} {fn fc : Nat} {LB : OA} {mn mc : Nat} {r0 r1 r2 r3 : Int} {EA : OA} {en ec : Nat} {LA : OA} {ln lc : Nat} {q0 q1 q2 q3 : Int} (C : CX base κ W bx EB fn fc LB mn mc r0 r1 r2 r3) (hk : (κ' bx).1 = 0) (sE : SK 3 κ' EA en ec) (sL : SK 1 κ' LA ln lc) : CX base κ' ((((((W.setCell ⟨bx,0,none⟩ (.slice EA en ec)).setCell ⟨bx,1,none⟩ (.slice LA ln lc)).setCell ⟨bx,2,none⟩ (.int .i64 q0)).setCell ⟨bx,3,none⟩ (.int .i64 q1)).setCell ⟨bx,4,none⟩ (.int .i64 q2)).setCell ⟨bx,5,none⟩ (.int .i64 q3)) bx EA en ec LA ln lc q0 q1 q2 q3 :=
 ⟨set6_5 (set6_4 (set6_3 (set6_2 (set6_1 (set6_0 C.hx))))),C.hr,hk,sE,sL⟩
theorem LS.six {R w W : World} {g n c k m p q z : Nat} {A I : OA} {l : List Int} {κ : Kf} (F : LS R w W g A n c k l κ m I p q) (hz : w.heap.size <= z) (hk : (κ z).1 = 0) (hI : blkOf I ≠ some z) (v0 v1 v2 v3 v4 v5 : Value) : LS R w ((((((W.setCell ⟨z,0,none⟩ v0).setCell ⟨z,1,none⟩ v1).setCell ⟨z,2,none⟩ v2).setCell ⟨z,3,none⟩ v3).setCell ⟨z,4,none⟩ v4).setCell ⟨z,5,none⟩ v5) g A n c k l κ m I p q :=
 (((((F.set0 hz hk hI 0 _).set0 hz hk hI 1 _).set0 hz hk hI 2 _).set0 hz hk hI 3 _).set0 hz hk hI 4 _).set0 hz hk hI 5 _
def SQ (R w W : World) (g bx : Nat) (A : OA) (n c k : Nat) (l : List Int) (u : Nat) (s : Value) : Prop:=∃ κ EA en ec LA ln lc q0 q1 q2 q3 I p q,s = .slice I p q /\ LS R w W g A n c k l κ 0 I p q /\ CX w.heap.size κ W bx EA en ec LA ln lc q0 q1 q2 q3 /\ p <= u /\ blkOf I ≠ some bx
def RetJ (R w : World) (g : Nat) (A : OA) (n c k : Nat) (l : List Int) (e : Ending) (w' : World) : Prop:=∃ (EA : OA) (en ec : Nat) (LA : OA) (ln lc : Nat) (q0 q1 q2 q3 : Int) (I : OA) (p q : Nat) (GA : OA) (gn gc : Nat) (KA : OA) (kn kc : Nat),e = .returned (.tuple #[.agg #[.slice EA en ec,.slice LA ln lc,.int .i64 q0,.int .i64 q1,.int .i64 q2,.int .i64 q3],.slice I p q,.agg #[.slice GA gn gc,.slice KA kn kc]]) /\ p <= 15 /\ Cx R w' g A n c k l /\ w.grownBy w' (some g) /\ ∃ t,t <= w'.heap.size /\ PRs (w.heap.size + 2) t w' EA en LA ln I p q GA gn KA kn
theorem judgedList_any {R w : World} {g n c k : Nat} {A : OA} {l : List Int} (h : Cx R w g A n c k l) (hk : k <= 300000) :
  Calls Tryz.prog 70 #[.pointer (some ⟨g,0,none⟩)] w (RetJ R w g A n c (k + 150000) l):=by
 have hgl:=h.cur.lt;have h0:=(h.below (bAlloc (Below.refl _ w) zCode)).below (bAlloc (Below.refl _ (w.alloc zCode)) zMarks);have z0:=heap_old (heap_alloc_new w zCode) (bAlloc (Below.refl _ (w.alloc zCode)) zMarks);have z1:=heap_alloc_new (w.alloc zCode) zMarks;rw [show (w.alloc zCode).heap.size = w.heap.size + 1 by simp] at z1;have gg0 : w.grownBy ((w.alloc zCode).alloc zMarks) (some g):=(World.grownBy_alloc w zCode (some g)).trans (World.grownBy_alloc (w.alloc zCode) zMarks (some g));have hsz0 : ((w.alloc zCode).alloc zMarks).heap.size = w.heap.size + 2:=by simp
 go_enter Tryz.func70,Tryz.ntmps70;simp only [zCode,zMarks] at h0 z0 z1 gg0 hsz0;go_wp2_with fail
 generalize (w.alloc (oC none 0 0 none 0 0 0 0 0 0)).alloc (.cells #[.slice none 0 0,.slice none 0 0] 31) = w1 at *;have Hs0:=Lib.hid hsz0;have hg1 : g < w1.heap.size:=Om;refine (programme_any h0 Om).mono ?_;rintro e w3 ⟨EA,en,ec,LA,ln,lc,q0,q1,q2,q3,I,p,q,κ,rfl,F0,SE,SL,hp,he,hl⟩;have F1:=F0.low (Nat.zero_le 1);have hBx:=bAlloc (Below.refl w3.heap.size w3) (oC EA en ec LA ln lc q0 q1 q2 q3);have F2:=F1.below hBx;have C2 : CX w1.heap.size κ (w3.alloc (oC EA en ec LA ln lc q0 q1 q2 q3)) w3.heap.size EA en ec LA ln lc q0 q1 q2 q3:=⟨heap_alloc_new w3 _,F1.gr.size,F1.th.new_ (Nat.le_refl _),SE,SL⟩;have hIx : blkOf I ≠ some w3.heap.size:=fun e=>by have:=(F1.ol.blk e).2.1;omega
 clear F0 F1 hBx SE SL h0 hsz0;go_wp2_with fail
 generalize w3.alloc (oC EA en ec LA ln lc q0 q1 q2 q3) = W3 at *;generalize w3.heap.size = bx at *;refine (one_cx F2.cx 12 Om Om Om).mono ?_;rintro e w4 ⟨bo,rfl,hC4,g4⟩;have F3:=F2.step (F2.cx.grow hC4 g4) g4;have C3:=C2.grow g4 F2.hg;clear F2 C2 hC4 g4;go_upto_if 17 with fail
 go_cut [6] (fun s wq=>SQ R w1 wq g bx A n c (k + 10000) l 20 s)
 case first =>
  exact Nonempty.elim (α:=type_of% ?k1) (letI i : Nonempty (type_of% ?k1):=⟨by
   clear z0 z1 gg0 hgl h Hs0
   cases bo
   ·
    go_wp2;go_meet;exact ⟨κ,_,en,ec,_,ln,lc,q0,q1,q2,q3,I,p,q,rfl,F3.mono Om,C3,Om,hIx⟩
   ·
    go_wp2_with fail
    refine (anyProgramme_any F3.cx Om).mono ?_;rintro e w5 ⟨EB,fn,fc,LB,mn,mc,r0,r1,r2,r3,J,pj,qj,κ5,rfl,F5,SE,SL,hpj,_,_⟩;have hlx:=C3.lt_;have G5:=F5.rebase F3.gr F3.hg;have C5:=C3.grow F5.gr F3.hg;have hk5 : (κ5 bx).1 = 0:=F5.th.low_ hlx;have hI5 : blkOf J ≠ some bx:=fun e=>by have:=(F5.ol.blk e).1;omega
    obtain ⟨⟨cx0,cx1,cx2,cx3,cx4,cx5⟩,cy0,cy1,cy2,cy3,cy4,cy5⟩:=C5.cells;have hlC5:=C5.lt_;go_wp2;go_meet;exact ⟨κ5,EB,fn,fc,LB,mn,mc,r0,r1,r2,r3,J,pj,qj,rfl,(G5.six C3.hr hk5 hI5 _ _ _ _ _ _).mono Om,C5.store hk5 SE SL,hpj,hI5⟩
   ⟩;by exact inferInstanceAs (Nonempty _)) (fun h=>h)
 case rest =>
  exact Nonempty.elim (α:=type_of% ?k8) (letI i : Nonempty (type_of% ?k8):=⟨by
   obtain ⟨κ,EA,en,ec,LA,ln,lc,q0,q1,q2,q3,I,p,q,rfl,F0,C0,hp20,hIx⟩:=hcut;clear F3 C3;go_wp2_with fail
   go_loopw [7,8,25] (fun _ _ i wr=>∃ j : Nat,j <= p /\ i = .int .i64 j /\ LS R w1 wr g A n c (k + 10000 + 4000 * j) l κ 0 I p q /\ CX w1.heap.size κ wr bx EA en ec LA ln lc q0 q1 q2 q3) (fun _ _ i _=>p - (intOf i).toNat)
   case atStart=>exact ⟨0,Nat.zero_le _,rfl,F0.mono Om,C0⟩
   case round =>
    exact Nonempty.elim (α:=type_of% ?k7) (letI i : Nonempty (type_of% ?k7):=⟨by
     clear F0 C0;obtain ⟨j,hj,rfl,F,C⟩:=hrel;by_cases hjp : j < p
     ·
      have hjI : (j : Int) < p:=Om;obtain ⟨bI,NA,nn,nc,MA,mn,mc,lt,rfl,hbl,hbb,hbk,hc0,hc1,hc2,hbf,SN,SM,hm1,hm2⟩:=F.ol.at_ hjp;have hmn:=(SM.ints F.th).1;have hgI : some bI ≠ some g:=fun e=>by injection e with e;have:=F.hg;omega
      go_wp2_with fail
      go_loopw [8,34] (fun _ i wr=>∃ i2 : Nat,i2 <= mn /\ i = .int .i64 i2 /\ LS R w1 wr g A n c (k + 10000 + 4000 * j + 4 * i2) l κ 0 (some ⟨bI,0,none⟩) p q /\ CX w1.heap.size κ wr bx EA en ec LA ln lc q0 q1 q2 q3 /\ wr.cell? ⟨bI,j * 3 + 1,none⟩ = some (.slice MA mn mc)) (fun _ i _=>mn - (intOf i).toNat)
      case atStart=>exact ⟨0,Nat.zero_le _,rfl,F.mono Om,C,hc1⟩
      case round =>
       exact Nonempty.elim (α:=type_of% ?k2) (letI i : Nonempty (type_of% ?k2):=⟨by
        clear F C hc0 hc1 hc2 hbf hbl;obtain ⟨i2,hi2,rfl,F,C,hc1⟩:=hrel;by_cases hi : i2 < mn
        ·
         have hiI : (i2 : Int) < mn:=Om;obtain ⟨z,rfl,hz1,hz2,hzk,hzf,v0,hzc⟩:=SM.intAt F.th hi;have hgz : some z ≠ some g:=fun e=>by injection e with e;have:=F.hg;omega
         have hzI : some bI ≠ some z:=fun e=>by injection e with e;subst e;rw [hzk] at hbk;cases hbk
         have hbl : bI < wr.heap.size:=(F.ol.blk rfl).2.1;go_wp2_with fail
         refine (one_cx F.cx 5 Om Om Om).mono ?_;rintro e w6 ⟨bo2,rfl,hC6,g6⟩;have F6:=F.step (F.cx.grow hC6 g6) g6;have C6:=C.grow g6 F.hg;have c6:=g6.cell hc1 hgI;have z6:=g6.cell hzc hgz;have zf6:=(g6.frozen_far ⟨z,i2,none⟩ hz2 hgz).trans hzf;have zl6:=Nat.lt_of_lt_of_le hz2 g6.size;have bl6:=Nat.lt_of_lt_of_le hbl g6.size;clear F C hC6 g6 hc1 hzc hzf hz2 hbl
         cases bo2
         ·
          go_wp2;go_roundw
          case rel=>exact ⟨i2 + 1,Om,by go_num,F6.mono Om,C6,c6⟩
          case measure=>simp [intOf];omega
         ·
          have BD:=grownBy_of_below (row:=some g) (bDrew (Below.refl w6.heap.size w6));go_upto_region 11 with fail
          go_region_law ((try go_simp);go_at_call 56;(with_reducible refine (pick_cx F6.drew.cx 4 Om Om Om).mono ?_);intro e w8 hp';obtain ⟨v8,_,rfl,h8,g8⟩:=F6.drew.cx.pick hp';have F8:=F6.drew.step h8 g8;have G8:=BD.trans g8;have C8:=C6.grow G8 F6.hg;have d1:=G8.cell c6 hgI;have dz:=G8.cell z6 hgz;have df:=(G8.frozen_far ⟨z,i2,none⟩ zl6 hgz).trans zf6;have dl:=Nat.lt_of_lt_of_le bl6 G8.size;have dl2:=Nat.lt_of_lt_of_le zl6 G8.size)
          all_goals
           have F9:=F8.setRow hz1 (by rw [hzk];simp) (F8.th.setI (by rw [hzk]) i2 v8);have C9:=C8.setRow (by rw [hzk];simp) i2 (.int .i64 v8);have c9:=(gSetM w8 z i2 (.int .i64 v8)).cell d1 hzI;go_wp2;go_roundw
           case rel=>exact ⟨i2 + 1,Om,by go_num,F9.mono Om,C9,c9⟩
           case measure=>simp [intOf];omega
        ·
         have hiI : ¬ (i2 : Int) < mn:=Om;obtain rfl : i2 = mn:=Om;go_wp2;go_roundw
         case rel=>exact ⟨j + 1,Om,by go_num,F.mono Om,C⟩
         case measure=>simp [intOf];omega
        ⟩;by exact inferInstanceAs (Nonempty _)) (fun h=>h)
     ·
      have hjI : ¬ (
             j : Int) < p:=Om
      obtain rfl : j = p:=Om;clear hjI;go_upto_region 14 with fail
      go_cut [56] from 50 to 56 (fun v wx=>∃ bv : Bool,v = .bool bv /\ LS R w1 wx g A n c (k + 100000) l κ 0 I j q /\ CX w1.heap.size κ wx bx EA en ec LA ln lc q0 q1 q2 q3)
      case first =>
       by_cases hp1 : 1 < j
       ·
        have hp1I : (1 : Int) < j:=Om;go_wp2_with fail
        refine (one_cx F.cx 3 Om Om Om).mono ?_;rintro e w6 ⟨bo2,rfl,hC6,g6⟩;have F6:=F.step (F.cx.grow hC6 g6) g6;have C6:=C.grow g6 F.hg;clear F C hC6 g6;go_wp2;go_meet;exact ⟨bo2,rfl,F6.mono Om,C6⟩
       ·
        have hp1I : ¬ (1 : Int) < j:=Om;go_wp2;go_meet;exact ⟨false,rfl,F.mono Om,C⟩
      case rest =>
       obtain ⟨bv,rfl,F3,C3⟩:=hcut;clear F C;go_upto_if 56 with fail
       go_cut [6] (fun s wq=>SQ R w1 wq g bx A n c (k + 100000) l 30 s)
       case first =>
        exact Nonempty.elim (α:=type_of% ?k3) (letI i : Nonempty (type_of% ?k3):=⟨by
         clear z0 z1 gg0 hgl h Hs0
         cases bv
         ·
          go_wp2;go_meet;exact ⟨κ,_,en,ec,_,ln,lc,q0,q1,q2,q3,I,j,q,rfl,F3,C3,Om,hIx⟩
         ·
          have hp3 : j <= 1000:=Om;obtain ⟨r,hr,hrp,hr5⟩ : ∃ r : Nat,(r : Int) = min (j : Int) 4 /\ r <= j /\ r <= 4:=⟨min j 4,Om,Om,Om⟩;have cl:=fun W=>l1Least_any (j : Int) 4 W
          rw [<- hr] at cl;clear hr;go_wp2_with fail
          refine (itOwn_any _ _ F3.th F3.ol hp3).mono ?_;rintro e w9 ⟨J1,cj1,κ1,x1,rfl,rfl,T1,O1⟩;have hB1:=ext_below wc x1;have T12:=F3.th.merge (g:=g) (grownBy_of_below hB1) (F3.th.low_ F3.hg) F3.gr.size T1;have O1':=(F3.ol.kx F3.th (Kx.km_ _ _ κ1)).below hB1;have O2' : OL w1.heap.size (km wc.heap.size κ κ1) 0 (ext wc x1) J1 j cj1:=O1.km_ T1 F3.gr.size;have C4:=(C3.kx_ F3.th (Kx.km_ _ _ κ1)).below hB1;have hcap:=O1.cap_;have hrc : (r : Int) <= cj1:=Om;have hrcN : r <= cj1:=Om;obtain ⟨xs,ys,a1,a2,a3,a4⟩:=OL.app T12 O1' O2' hrp;have hpr : j + r <= 1099511627776:=Om;have hsz:=hB1.size;have hlx:=C3.lt_;clear T1 O1 hcap;have hle:=Nat.le_trans F3.gr.size hsz;generalize ext wc x1 = W10 at *;go_wp2_with (first | (go_at_call 124;(with_reducible refine ep (cl _) ?_)) | (at_builtin;(refine wpl_step fun E=>?_);refine app_item rfl _ _ hle rfl rfl hpr rfl a1 a2 a3 ?_;intro A' c' w' ho hg hd;obtain ⟨T3,O3⟩:=a4 A' c' w' ho hg hd))
          obtain ⟨e1,e2⟩:=LS.grown (F3.cx.below hB1) (F3.gr.trans (grownBy_of_below hB1)) F3.hg (Below.refl _ _) hg (fun b e=>(O1'.blk e).1);go_meet;exact ⟨km wc.heap.size κ κ1,_,en,ec,_,ln,lc,q0,q1,q2,q3,A',j + r,c',rfl,⟨e1,e2,F3.hg,T3,O3⟩,C4.row hg hIx,Om,fun e=>by
           rcases hd with hd | hd
           ·
            exact hIx (hd ▸ e)
           ·
            rw [hd] at e;injection e with e;omega⟩
         ⟩;by exact inferInstanceAs (Nonempty _)) (fun h=>h)
       case rest =>
        exact Nonempty.elim (α:=type_of% ?k6) (letI i : Nonempty (type_of% ?k6):=⟨by
         clear F3 C3;obtain ⟨κ,EA,en,ec,LA,ln,lc,q0,q1,q2,q3,I,p,q,rfl,F,C,hp30,hIx⟩:=hcut;obtain ⟨N,hN,hNp,hN15⟩ : ∃ N : Nat,(N : Int) = min (p : Int) 15 /\ N <= p /\ N <= 15:=⟨min p 15,Om,Om,Om⟩;have cl:=fun W=>l1Least_any (p : Int) 15 W
         rw [<- hN] at cl;clear hN;go_wp2_with ((go_at_call 124;(with_reducible refine ep (cl _) ?_)))
         refine (marks_any F.cx Om N hN15).mono ?_;rintro e w6 ⟨GA,gc,CA,cc,gg,kk,mid,qq,rfl,hqq,h6,tg,tc,hmid,rg,rc,g6⟩;have F6:=F.step h6 g6;have C6:=C.grow g6 F.hg;have hwl:=F.gr.size;have hBm:=bAlloc (Below.refl w6.heap.size w6) (.cells #[.slice GA N gc,.slice CA 3 cc] 31);have tG : Tr (fun z=>w1.heap.size <= z /\ z ≠ w6.heap.size) (w6.alloc (.cells #[.slice GA N gc,.slice CA 3 cc] 31)) GA N gc gg:=(tg.tr (fun z h1 h2=>⟨Om,Om⟩)).below hBm;have tK : Tr (fun z=>w1.heap.size <= z /\ z ≠ w6.heap.size) (w6.alloc (.cells #[.slice GA N gc,.slice CA 3 cc] 31)) CA 3 cc kk:=(tc.tr (fun z h1 h2=>⟨Om,Om⟩)).below hBm;have F7:=F6.below hBm;have C7:=C6.below hBm;have hm7:=heap_alloc_new w6 (.cells #[.slice GA N gc,.slice CA 3 cc] 31);have hkm : (κ w6.heap.size).1 = 0:=F6.th.new_ (Nat.le_refl _);have hIm : blkOf I ≠ some w6.heap.size:=fun e=>by have:=(F6.ol.blk e).2.1;omega
         have hbm : w1.heap.size <= w6.heap.size:=F6.gr.size;have hbxm : bx ≠ w6.heap.size:=by have:=C6.lt_;omega
         have hgN : ∀ j,j < N -> (gg[j]?.getD []).length <= 10:=fun j hj=>by rw [rg j hj];omega
         have hkN : ∀ j,j < 3 -> (kk[j]?.getD []).length <= 10:=fun j hj=>by rw [rc j hj];omega
         clear F C h6 g6 tg tc hmid rg rc F6 C6 hBm hwl cl hqq;go_wp2_with fail
         generalize w6.alloc (.cells #[.slice GA N gc,.slice CA 3 cc] 31) = W7 at *;generalize w6.heap.size = bm at *;refine (one_cx F7.cx 10 Om Om Om).mono ?_;rintro e w8 ⟨bo3,rfl,hC8,g8⟩;have F8:=F7.step (F7.cx.grow hC8 g8) g8;have C8:=C7.grow g8 F7.hg;have hgm : g < w1.heap.size:=F7.hg;have hm8:=heap_kept hm7 g8 Om;have tG8:=tG.kept g8 (fun z hz e=>by injection e with e;omega);have tK8:=tK.kept g8 (fun z hz e=>by injection e with e;omega);clear F7 C7 hC8 g8 hm7 tG tK;go_upto_if 72 with fail
         go_cut [] (fun wq=>∃ (GA : OA) (gn gc : Nat) (KA : OA) (kn kc : Nat) (gg kk : List (List Int)),LS R w1 wq g A n c (k + 140000) l κ 0 I p q /\ CX w1.heap.size κ wq bx EA en ec LA ln lc q0 q1 q2 q3 /\ wq.heap[bm]? = some (.cells #[.slice GA gn gc,.slice KA kn kc] 31) /\ Tr (fun z=>w1.heap.size <= z /\ z ≠ bm) wq GA gn gc gg /\ Tr (fun z=>w1.heap.size <= z /\ z ≠ bm) wq KA kn kc kk /\ gn <= 15 /\ kn <= 4 /\ (∀ j,j < gn -> (gg[j]?.getD []).length <= 10) /\ ∀ j,j < kn -> (kk[j]?.getD []).length <= 10)
         case first =>
          exact Nonempty.elim (α:=type_of% ?k4) (letI i : Nonempty (type_of% ?k4):=⟨by
           clear z0 z1 gg0 hgl h Hs0
           cases bo3
           ·
            go_wp2;go_meet;exact ⟨GA,N,gc,CA,3,cc,gg,kk,F8.mono Om,C8,hm8,tG8,tK8,hN15,Om,hgN,hkN⟩
           ·
            go_wp2_with fail
            refine (pick_cx F8.cx 6 Om Om Om).mono ?_;intro e w9 hp';obtain ⟨v9,⟨hv0,hv1⟩,rfl,h9,g9⟩:=F8.cx.pick hp';obtain ⟨N9,rfl⟩ : ∃ N9 : Nat,v9 = N9:=⟨v9.toNat,Om⟩;have F9:=F8.step h9 g9;have C9:=C8.grow g9 F8.hg;have hm9:=heap_kept hm8 g9 Om;have hN9 : N9 <= 15:=Om;clear hp' F8 C8 hm8 tG8 tK8 h9 g9 hv0 hv1;go_wp2_with fail
            refine (anyMarks_any F9.cx Om N9 hN9).mono ?_;rintro e w10 ⟨A1,n1,c1,G1,A2,n2,c2,K2,rfl,h10,g10,t1,t2,hn12,hl1,hl2⟩;have hlm:=(Array.getElem?_eq_some_iff.1 hm9).1;have F10:=F9.step h10 g10;have C10:=C9.grow g10 F9.hg;have hm10:=heap_kept hm9 g10 Om;obtain ⟨⟨m0,m1⟩,m2,m3⟩:=blk2 hm10;have hlm2:=(Array.getElem?_eq_some_iff.1 hm10).1;have s1 : Tr (fun z=>w1.heap.size <= z /\ z ≠ bm) w10 A1 n1 c1 G1:=t1.imp (fun z hz=>⟨by have:=F9.gr.size;omega,Om⟩);have s2 : Tr (fun z=>w1.heap.size <= z /\ z ≠ bm) w10 A2 n2 c2 K2:=t2.imp (fun z hz=>⟨by have:=F9.gr.size;omega,Om⟩);go_wp2;go_meet;exact ⟨A1,n1,c1,A2,n2,c2,G1,K2,((F10.set0 hbm hkm hIm 0 _).set0 hbm hkm hIm 1 _).mono Om,(C10.setO (fun e=>hbxm e.symm) 0 _).setO (fun e=>hbxm e.symm) 1 _,set2_1 (set2_0 hm10),(s1.set (fun h=>h.2 rfl)).set (fun h=>h.2 rfl),(s2.set (fun h=>h.2 rfl)).set (fun h=>h.2 rfl),hn12.1,hn12.2,hl1,hl2⟩
           ⟩;by exact inferInstanceAs (Nonempty _)) (fun h=>h)
         case rest =>
          exact Nonempty.elim (α:=type_of% ?k5) (letI i : Nonempty (type_of% ?k5):=⟨by
           obtain ⟨GA,gn,gc,KA,kn,kc,gg,kk,F,C,hm,t1,t2,hgn,hkn,hl1,hl2⟩:=hcut;clear F8 C8 hm8 tG8 tK8 hgN hkN;have hP:=prs_of (r:=N) F C.sE C.sL (t1.imp (fun z h=>h.1)) (t2.imp (fun z h=>h.1)) hNp Om Om Om (fun j hj=>by have:=hl1 j hj;omega) (fun j hj=>by have:=hl2 j hj;omega);obtain ⟨⟨m0,m1⟩,m2,m3⟩:=blk2 hm;have hlm:=(Array.getElem?_eq_some_iff.1 hm).1;obtain ⟨⟨ex0,ex1,ex2,ex3,ex4,ex5⟩,ey0,ey1,ey2,ey3,ey4,ey5⟩:=C.cells;have hlC:=C.lt_;have hw2:=Hs0.out;have zz:=heap_kept z0 F.gr Om;have zm:=heap_kept z1 F.gr Om;obtain ⟨⟨y0,y1,y2,y3,y4,y5⟩,x0,x1,x2,x3,x4,x5⟩:=blk6 zz;obtain ⟨⟨u0,u1⟩,u2,u3⟩:=blk2 zm;have hlr:=(Array.getElem?_eq_some_iff.1 zz).1;have hlr2:=(Array.getElem?_eq_some_iff.1 zm).1;have hNq : (N : Int) <= q:=by have:=F.ol.cap_;omega
           have hNq2 : N <= q:=Om;have hle1:=F.cx.le;have hgr:=F.gr.size;have hxr:=C.hr;have n1 : bx ≠ w.heap.size:=Om;have n2 : bx ≠ w.heap.size + 1:=Om;have n3 : bm ≠ w.heap.size:=Om;have n4 : bm ≠ w.heap.size + 1:=Om;have hP2 : PRs (w.heap.size + 2) wc.heap.size wc EA en LA ln I N q GA gn KA kn:=hw2 ▸ hP;have gW:=gg0.trans F.gr;go_upto_region 20 with fail
           go_region_held3 (fun w'=>(w'.cell? ⟨bx,0,none⟩ = some (.slice EA en ec) /\ w'.cell? ⟨bx,1,none⟩ = some (.slice LA ln lc) /\ w'.cell? ⟨bx,2,none⟩ = some (.int .i64 q0) /\ w'.cell? ⟨bx,3,none⟩ = some (.int .i64 q1) /\ w'.cell? ⟨bx,4,none⟩ = some (.int .i64 q2) /\ w'.cell? ⟨bx,5,none⟩ = some (.int .i64 q3) /\ w'.cell? ⟨bm,0,none⟩ = some (.slice GA gn gc) /\ w'.cell? ⟨bm,1,none⟩ = some (.slice KA kn kc))) (first | with_reducible exact c8 (heap_dr C.hx) (heap_dr hm) | with_reducible exact c8 (heap_dr (heap_six C.hx n1 _ _ _ _ _ _)) (heap_dr (heap_six hm n3 _ _ _ _ _ _)) | with_reducible exact c8 (heap_dr (heap_two C.hx n2 _ _)) (heap_dr (heap_two hm n4 _ _)) | with_reducible exact c8 (heap_dr (heap_six (heap_two C.hx n2 _ _) n1 _ _ _ _ _ _)) (heap_dr (heap_six (heap_two hm n4 _ _) n3 _ _ _ _ _ _)) | with_reducible exact c8 (heap_dr (heap_two (heap_six C.hx n1 _ _ _ _ _ _) n2 _ _)) (heap_dr (heap_two (heap_six hm n3 _ _ _ _ _ _) n4 _ _)) | (trace_state;fail)) (fail)
           all_goals
            go_wp2;refine bodyPost_ret (v:=.tuple #[.agg #[.slice EA en ec,.slice LA ln lc,.int .i64 q0,.int .i64 q1,.int .i64 q2,.int .i64 q3],.slice I N q,.agg #[.slice GA gn gc,.slice KA kn kc]]) (by simp [results,Tryz.results70,go_sem,ex0,ex1,ex2,ex3,ex4,ex5,y0,y1,y2,y3,y4,y5,x0,x1,x2,x3,x4,x5,hlr,hlr2,u0,u1,u2,u3,m0,m1,m2,m3]) rfl ?_;refine (fun (hRl : Rls (w.heap.size + 2) wc.heap.size wc _)=>⟨EA,en,ec,LA,ln,lc,q0,q1,q2,q3,I,N,q,GA,gn,gc,KA,kn,kc,rfl,hN15,?_,?_,_,hRl.size,hP2.step hRl⟩) ?_
            ·
             refine Rls.trans ?_ (.bel (bDrew (Below.refl _ _)))
             iterate 8 (refine Rls.set ?_ (Or.inl Om) _ _)
             exact Rls.refl _
            ·
             refine Cx.mono (k:=k + 140000) ?_ Om;refine Cx.below ?_ (bDrew (Below.refl _ _))
             iterate 8 (refine Cx.set ?_ Om Om _ _)
             exact F.cx
            ·
             refine World.grownBy.trans ?_ (grownBy_of_below (bDrew (Below.refl _ _)))
             iterate 8 (refine grow_set ?_ Om _ _)
             exact gW
           ⟩;by exact inferInstanceAs (Nonempty _)) (fun h=>h)
         ⟩;by exact inferInstanceAs (Nonempty _)) (fun h=>h)
     ⟩;by exact inferInstanceAs (Nonempty _)) (fun h=>h)
   ⟩;by exact inferInstanceAs (Nonempty _)) (fun h=>h)
def Bk (W : World) : List (Nat × Obj) -> Prop
 | []=>True
 | x :: r=>W.heap[x.1]? = some x.2 /\ Bk W r
def Nin (z : Nat) : List (Nat × Obj) -> Prop
 | []=>True
 | x :: r=>x.1 ≠ z /\ Nin z r
theorem Bk.hd {W : World} {z : Nat} {o : Obj} {r : List (Nat × Obj)} (h : Bk W ((z,o) :: r)) : W.heap[z]? = some o:=(show W.heap[z]? = some o /\ Bk W r from h).1
theorem Bk.tl {W : World} {x : Nat × Obj} {r : List (Nat × Obj)} (h : Bk W (x :: r)) : Bk W r:=(show W.heap[x.1]? = some x.2 /\ Bk W r from h).2
theorem Bk.kept {w w' : World} {g : Nat} (hg : w.grownBy w' (some g)) : ∀ {bs : List (Nat × Obj)},Nin g bs -> Bk w bs -> Bk w' bs
 | [],_,_=>trivial
 | x :: r,hn,hb =>
  have hn : x.1 ≠ g /\ Nin g r:=hn;have hb : w.heap[x.1]? = some x.2 /\ Bk w r:=hb
  (⟨heap_kept hb.1 hg hn.1,Bk.kept hg hn.2 hb.2⟩ : w'.heap[x.1]? = some x.2 /\ Bk w' r)
theorem Bk.below {w w' : World} (h : Below w.heap.size w w') : ∀ {bs : List (Nat × Obj)},Bk w bs -> Bk w' bs
 | [],_=>trivial
 | x :: r,hb =>
  have hb : w.heap[x.1]? = some x.2 /\ Bk w r:=hb
  (⟨heap_old hb.1 h,Bk.below h hb.2⟩ : w'.heap[x.1]? = some x.2 /\ Bk w' r)
structure XW (R w W : World) (g : Nat) (A : OA) (n c k : Nat) (l : List Int) (lim t : Nat) (W0 : World) (bs : List (Nat × Obj)) : Prop where
 cx : Cx R W g A n c k l
 gr : w.grownBy W (some g)
 bk : Bk W bs
 ng : Nin g bs
 rl : Rls lim t W0 W
 hg : g < lim ∨ t <= g
section
variable {R w W W' : World} {g n c k k' : Nat} {A : OA} {l : List Int} {lim t : Nat} {W0 : World} {bs bs' : List (Nat × Obj)}
theorem XW.step (F : XW R w W g A n c k l lim t W0 bs) (hX : Cx R W' g A n c k' l) (h : W.grownBy W' (some g)) : XW R w W' g A n c k' l lim t W0 bs :=
 ⟨hX,F.gr.trans h,F.bk.kept h F.ng,F.ng,F.rl.trans (.one h (fun b e=>by injection e with e;have:=F.hg;omega)),F.hg⟩
theorem XW.below (F : XW R w W g A n c k l lim t W0 bs) (h : Below W.heap.size W W') : XW R w W' g A n c k l lim t W0 bs :=
 ⟨F.cx.below h,F.gr.trans (grownBy_of_below h),F.bk.below h,F.ng,F.rl.trans (.bel h),F.hg⟩
theorem XW.drew (F : XW R w W g A n c k l lim t W0 bs) : XW R w W.drew g A n c k l lim t W0 bs:=F.below (bDrew (Below.refl _ W))
theorem XW.mono (F : XW R w W g A n c k l lim t W0 bs) (h : k <= k') : XW R w W g A n c k' l lim t W0 bs:=⟨F.cx.mono h,F.gr,F.bk,F.ng,F.rl,F.hg⟩
theorem XW.hl (F : XW R w W g A n c k l lim t W0 bs) : g < W.heap.size:=F.cx.cur.lt
theorem XW.box (F : XW R w W g A n c k l lim t W0 bs) (o : Obj) : XW R w (W.alloc o) g A n c k l lim t W0 ((W.heap.size,o) :: bs) :=
 have h:=F.below (bAlloc (Below.refl _ W) o);have hl:=F.hl
 ⟨h.cx,h.gr,(⟨heap_alloc_new W o,h.bk⟩ : (W.alloc o).heap[W.heap.size]? = some o /\ Bk (W.alloc o) bs),(⟨Om,F.ng⟩ : W.heap.size ≠ g /\ Nin g bs),h.rl,h.hg⟩
theorem XW.add (F : XW R w W g A n c k l lim t W0 bs) {z : Nat} {o : Obj} (hz : W.heap[z]? = some o) (hne : z ≠ g) : XW R w W g A n c k l lim t W0 ((z,o) :: bs) :=
 ⟨F.cx,F.gr,(⟨hz,F.bk⟩ : W.heap[z]? = some o /\ Bk W bs),(⟨hne,F.ng⟩ : z ≠ g /\ Nin g bs),F.rl,F.hg⟩
theorem XW.tl {x : Nat × Obj} (F : XW R w W g A n c k l lim t W0 (x :: bs)) : XW R w W g A n c k l lim t W0 bs :=
 ⟨F.cx,F.gr,F.bk.tl,(show x.1 ≠ g /\ Nin g bs from F.ng).2,F.rl,F.hg⟩
theorem XW.set (F : XW R w W g A n c k l lim t W0 bs) {z : Nat} (hn : Nin z bs) (hR : R.heap.size <= z) (hw : w.heap.size <= z) (hne : z ≠ g) (ht : z < lim ∨ t <= z) (j : Nat) (v : Value) : XW R w (W.setCell ⟨z,j,none⟩ v) g A n c k l lim t W0 bs :=
 ⟨F.cx.set hR hne j v,grow_set F.gr hw j v,F.bk.kept (gSetM W z j v) hn,F.ng,F.rl.set ht j v,F.hg⟩
theorem XW.six (F : XW R w W g A n c k l lim t W0 bs) {z : Nat} (hn : Nin z bs) (hR : R.heap.size <= z) (hw : w.heap.size <= z) (hne : z ≠ g) (ht : z < lim ∨ t <= z) (v0 v1 v2 v3 v4 v5 : Value) : XW R w ((((((W.setCell ⟨z,0,none⟩ v0).setCell ⟨z,1,none⟩ v1).setCell ⟨z,2,none⟩ v2).setCell ⟨z,3,none⟩ v3).setCell ⟨z,4,none⟩ v4).setCell ⟨z,5,none⟩ v5) g A n c k l lim t W0 bs :=
 (((((F.set hn hR hw hne ht 0 v0).set hn hR hw hne ht 1 v1).set hn hR hw hne ht 2 v2).set hn hR hw hne ht 3 v3).set hn hR hw hne ht 4 v4).set hn hR hw hne ht 5 v5
end
def zPerf : Obj:=(oP none 0 0 none 0 0 none 0 0 0 0 0)
def RetPf (R w : World) (g : Nat) (A : OA) (n c k : Nat) (l : List Int) (e : Ending) (w' : World) : Prop:=∃ (EA : OA) (en ec : Nat) (LA : OA) (ln lc : Nat) (q0 q1 q2 q3 : Int) (I : OA) (p q : Nat) (GA : OA) (gn gc : Nat) (KA : OA) (kn kc : Nat) (a b d : Int),e = .returned (.tuple #[.agg #[.slice EA en ec,.slice LA ln lc,.int .i64 q0,.int .i64 q1,.int .i64 q2,.int .i64 q3],.agg #[.slice I p q,.slice GA gn gc,.slice KA kn kc,.int .i64 a,.int .i64 b,.int .i64 d]]) /\ p <= 15 /\ Cx R w' g A n c k l /\ w.grownBy w' (some g) /\ ∃ t,t <= w'.heap.size /\ PRs (w.heap.size + 2) t w' EA en LA ln I p q GA gn KA kn
theorem performance_any {R w : World} {g n c k : Nat} {A : OA} {l : List Int} (h : Cx R w g A n c k l) (hk : k <= 200000) :
  Calls Tryz.prog 35 #[.pointer (some ⟨g,0,none⟩)] w (RetPf R w g A n c (k + 160000) l):=by
 have hgl:=h.cur.lt;have hRw:=h.bel.size;have h0:=(h.below (bAlloc (Below.refl _ w) zCode)).below (bAlloc (Below.refl _ (w.alloc zCode)) zPerf);have z0:=heap_old (heap_alloc_new w zCode) (bAlloc (Below.refl _ (w.alloc zCode)) zPerf);have z1:=heap_alloc_new (w.alloc zCode) zPerf;rw [show (w.alloc zCode).heap.size = w.heap.size + 1 by simp] at z1;have gg0 : w.grownBy ((w.alloc zCode).alloc zPerf) (some g):=(World.grownBy_alloc w zCode (some g)).trans (World.grownBy_alloc (w.alloc zCode) zPerf (some g));have hsz0 : ((w.alloc zCode).alloc zPerf).heap.size = w.heap.size + 2:=by simp
 go_enter Tryz.func35,Tryz.ntmps35;simp only [zCode,zPerf] at h0 z0 z1 gg0 hsz0;go_wp2_with fail
 generalize (w.alloc (oC none 0 0 none 0 0 0 0 0 0)).alloc (oP none 0 0 none 0 0 none 0 0 0 0 0) = w1 at *;have hg1 : g < w1.heap.size:=Om;refine (judgedList_any h0 Om).mono ?_;rintro e w2 ⟨EA,en,ec,LA,ln,lc,q0,q1,q2,q3,I,p,q,GA,gn,gc,KA,kn,kc,rfl,hp15,h2,g2,t,ht,hP2⟩;have F1 : XW R w w2 g A n c (k + 150000) l (w.heap.size + 2) t w2 [(w.heap.size + 1,(oP none 0 0 none 0 0 none 0 0 0 0 0)),(w.heap.size,(oC none 0 0 none 0 0 0 0 0 0))] :=
  ⟨h2,gg0.trans g2,⟨heap_kept z1 g2 Om,heap_kept z0 g2 Om,trivial⟩,⟨by dsimp only;omega,by dsimp only;omega,trivial⟩,.refl _,.inl Om⟩
 have F2:=F1.box (oC EA en ec LA ln lc q0 q1 q2 q3);have F3:=F2.box (.cells #[.slice GA gn gc,.slice KA kn kc] 31);rw [show (w2.alloc (oC EA en ec LA ln lc q0 q1 q2 q3)).heap.size = w2.heap.size + 1 by simp] at F3;have hs3 : ((w2.alloc (oC EA en ec LA ln lc q0 q1 q2 q3)).alloc (.cells #[.slice GA gn gc,.slice KA kn kc] 31)).heap.size = w2.heap.size + 2:=by simp
 have hbx : w.heap.size + 2 <= w2.heap.size:=by have:=g2.size;omega
 have hP3:=hP2.low (show w.heap.size + 2 <= w1.heap.size + 2 by omega) (Nat.le_refl t);clear hP2 z0 z1 gg0 g2 h0 hsz0 h2 F1 F2 hg1;go_upto_region 2 with fail;generalize (w2.alloc (oC EA en ec LA ln lc q0 q1 q2 q3)).alloc (.cells #[.slice GA gn gc,.slice KA kn kc] 31) = w3 at *;have Hs3:=Lib.hid hs3;clear hs3;generalize hbe : w2.heap.size = bx at *;have Hbe:=Lib.hid hbe;clear hbe
 go_cut [7] (fun v wx=>∃ (z : Nat) (a b d : Int),v = .pointer (some ⟨z,0,none⟩) /\ bx < z /\ XW R w wx g A n c (k + 150010) l (w.heap.size + 2) t w2 [(z,(oP I p q GA gn gc KA kn kc a b d)),(bx,(oC EA en ec LA ln lc q0 q1 q2 q3)),(w.heap.size + 1,(oP none 0 0 none 0 0 none 0 0 0 0 0)),(w.heap.size,(oC none 0 0 none 0 0 0 0 0 0))])
 case first =>
  exact Nonempty.elim (α:=type_of% ?k1) (letI i : Nonempty (type_of% ?k1):=⟨by
   have F4:=F3.drew;have HA:=(F3.box (oP none 0 0 none 0 0 none 0 0 0 0 0)).drew;have hz3 : bx + 1 < w3.heap.size:=by rw [Hs3.out];omega
   have cs:=slips_any F4.cx Om;have csA:=slips_any HA.cx Om;have hlm:=F3.hl;have k4:=c2 F4.bk.hd;have kA:=c2 HA.bk.tl.hd
   go_region_held3 (fun w'=>w'.cell? ⟨bx + 1,0,none⟩ = some (.slice GA gn gc) /\ w'.cell? ⟨bx + 1,1,none⟩ = some (.slice KA kn kc)) (first | with_reducible exact k4 | with_reducible exact kA | with_reducible exact k5 | with_reducible exact k6 _ _ _ _ _ _ | with_reducible exact k7 _ | (trace_state;fail)) (first | (go_at_call 71;(with_reducible refine cs.mono ?_);rintro e w5 ⟨a,b,d,rfl,h5,g5⟩;have F5:=F4.step h5 g5;have k5:=c2 F5.bk.hd;have k7:=fun o=>c2 (heap_old F5.bk.hd (bAlloc (Below.refl _ _) o))) | (go_at_call 71;(with_reducible refine csA.mono ?_);rintro e w5 ⟨a,b,d,rfl,h5,g5⟩;have F5:=HA.step h5 g5;obtain ⟨_,u0,u1,u2,u3,u4,u5⟩:=blk6 F5.bk.hd;have ul:=(Array.getElem?_eq_some_iff.1 F5.bk.hd).1;have k5:=c2 F5.bk.tl.hd;have k6:=fun v0 v1 v2 v3 v4 v5=>c2 (heap_six F5.bk.tl.hd (Nat.ne_of_lt hz3) v0 v1 v2 v3 v4 v5)))
   ·
    go_wp2;go_meet;have hl:=(Array.getElem?_eq_some_iff.1 F5.bk.tl.hd).1;exact ⟨w5.heap.size,a,b,d,rfl,hl,(F5.tl.box _).mono Om⟩
   ·
    go_wp2;go_meet;exact ⟨w3.heap.size,a,b,d,rfl,Om,((F5.tl.tl.six (z:=w3.heap.size) ⟨by first | omega | (dsimp only;omega),by first | omega | (dsimp only;omega),by first | omega | (dsimp only;omega),trivial⟩ Om Om Om (.inr Om) _ _ _ _ _ _).add (set6_5 (set6_4 (set6_3 (set6_2 (set6_1 (set6_0 F5.bk.hd)))))) Om).mono Om⟩
   ⟩;by exact inferInstanceAs (Nonempty _)) (fun h=>h)
 case rest =>
  exact Nonempty.elim (α:=type_of% ?k4) (letI i : Nonempty (type_of% ?k4):=⟨by
   obtain ⟨z,a,b,d,rfl,hz,F⟩:=hcut;clear F3 Hs3;go_wp2_with fail
   refine (one_cx F.cx 16 Om Om Om).mono ?_;rintro e w6 ⟨bo,rfl,hC6,g6⟩;have F6:=F.step (F.cx.grow hC6 g6) g6;clear F hC6 g6;go_upto_if 20 with fail
   go_cut [] (fun wx=>∃ a b d : Int,XW R w wx g A n c (k + 150030) l (w.heap.size + 2) t w2 [(z,(oP I p q GA gn gc KA kn kc a b d)),(bx,(oC EA en ec LA ln lc q0 q1 q2 q3)),(w.heap.size + 1,(oP none 0 0 none 0 0 none 0 0 0 0 0)),(w.heap.size,(oC none 0 0 none 0 0 0 0 0 0))])
   case first =>
    exact Nonempty.elim (α:=type_of% ?k2) (letI i : Nonempty (type_of% ?k2):=⟨by
     cases bo
     ·
      go_wp2;go_meet;exact ⟨a,b,d,F6.mono Om⟩
     ·
      go_wp2_with fail
      refine (anySlips_any F6.cx Om).mono ?_;rintro e w7 ⟨a2,b2,d2,rfl,h7,g7⟩;have F7:=F6.step h7 g7;obtain ⟨⟨p0,p1,p2,p3,p4,p5⟩,o0,o1,o2,o3,o4,o5⟩:=blk6 F7.bk.hd;have hlp:=(Array.getElem?_eq_some_iff.1 F7.bk.hd).1;go_wp2;go_meet;have H1:=F7.tl.set (z:=z) ⟨by first | omega | (dsimp only;omega),by first | omega | (dsimp only;omega),by first | omega | (dsimp only;omega),trivial⟩ Om Om Om (.inr Om) 3 (.int .i64 a2);have H2:=H1.set (z:=z) ⟨by first | omega | (dsimp only;omega),by first | omega | (dsimp only;omega),by first | omega | (dsimp only;omega),trivial⟩ Om Om Om (.inr Om) 4 (.int .i64 b2);have H3:=H2.set (z:=z) ⟨by first | omega | (dsimp only;omega),by first | omega | (dsimp only;omega),by first | omega | (dsimp only;omega),trivial⟩ Om Om Om (.inr Om) 5 (.int .i64 d2);exact ⟨a2,b2,d2,(H3.add (set6_5 (set6_4 (set6_3 F7.bk.hd))) Om).mono Om⟩
     ⟩;by exact inferInstanceAs (Nonempty _)) (fun h=>h)
   case rest =>
    exact Nonempty.elim (α:=type_of% ?k3) (letI i : Nonempty (type_of% ?k3):=⟨by
     obtain ⟨a,b,d,F⟩:=hcut;clear F6;go_upto_region 5 with fail;have n1 : bx ≠ w.heap.size:=Om;have n2 : bx ≠ w.heap.size + 1:=Om;have n3 : z ≠ w.heap.size:=Om;have n4 : z ≠ w.heap.size + 1:=Om;have hx:=F.bk.tl.hd;have hp:=F.bk.hd;have k0:=c12 (heap_dr hx) (heap_dr hp);have k1:=fun v0 v1 v2 v3 v4 v5=>c12 (heap_dr (heap_six hx n1 v0 v1 v2 v3 v4 v5)) (heap_dr (heap_six hp n3 v0 v1 v2 v3 v4 v5))
     have k2:=fun v0 v1 v2 v3 v4 v5=>c12 (heap_dr (heap_six hx n2 v0 v1 v2 v3 v4 v5)) (heap_dr (heap_six hp n4 v0 v1 v2 v3 v4 v5))
     have k3:=fun v0 v1 v2 v3 v4 v5 u0 u1 u2 u3 u4 u5=>c12 (heap_dr (heap_six (heap_six hx n1 v0 v1 v2 v3 v4 v5) n2 u0 u1 u2 u3 u4 u5)) (heap_dr (heap_six (heap_six hp n3 v0 v1 v2 v3 v4 v5) n4 u0 u1 u2 u3 u4 u5))
     have k4:=fun v0 v1 v2 v3 v4 v5 u0 u1 u2 u3 u4 u5=>c12 (heap_dr (heap_six (heap_six hx n2 v0 v1 v2 v3 v4 v5) n1 u0 u1 u2 u3 u4 u5)) (heap_dr (heap_six (heap_six hp n4 v0 v1 v2 v3 v4 v5) n3 u0 u1 u2 u3 u4 u5))
     obtain ⟨⟨z0,z1,z2,z3,z4,z5⟩,zf0,zf1,zf2,zf3,zf4,zf5⟩:=blk6 F.bk.tl.tl.hd;have zl:=(Array.getElem?_eq_some_iff.1 F.bk.tl.tl.hd).1;obtain ⟨⟨y0,y1,y2,y3,y4,y5⟩,yf0,yf1,yf2,yf3,yf4,yf5⟩:=blk6 F.bk.tl.tl.tl.hd;have yl:=(Array.getElem?_eq_some_iff.1 F.bk.tl.tl.tl.hd).1
     go_region_held3 (fun w'=>w'.cell? ⟨bx,0,none⟩ = some (.slice EA en ec) /\ w'.cell? ⟨bx,1,none⟩ = some (.slice LA ln lc) /\ w'.cell? ⟨bx,2,none⟩ = some (.int .i64 q0) /\ w'.cell? ⟨bx,3,none⟩ = some (.int .i64 q1) /\ w'.cell? ⟨bx,4,none⟩ = some (.int .i64 q2) /\ w'.cell? ⟨bx,5,none⟩ = some (.int .i64 q3) /\ w'.cell? ⟨z,0,none⟩ = some (.slice I p q) /\ w'.cell? ⟨z,1,none⟩ = some (.slice GA gn gc) /\ w'.cell? ⟨z,2,none⟩ = some (.slice KA kn kc) /\ w'.cell? ⟨z,3,none⟩ = some (.int .i64 a) /\ w'.cell? ⟨z,4,none⟩ = some (.int .i64 b) /\ w'.cell? ⟨z,5,none⟩ = some (.int .i64 d)) (first | with_reducible exact k0 | with_reducible exact k1 _ _ _ _ _ _ | with_reducible exact k2 _ _ _ _ _ _ | with_reducible exact k3 _ _ _ _ _ _ _ _ _ _ _ _ | with_reducible exact k4 _ _ _ _ _ _ _ _ _ _ _ _ | (trace_state;fail)) (fail)
     all_goals
      go_wp2;refine bodyPost_ret (v:=.tuple #[.agg #[.slice EA en ec,.slice LA ln lc,.int .i64 q0,.int .i64 q1,.int .i64 q2,.int .i64 q3],.agg #[.slice I p q,.slice GA gn gc,.slice KA kn kc,.int .i64 a,.int .i64 b,.int .i64 d]]) (by simp [results,Tryz.results35,go_sem,y0,y1,y2,y3,y4,y5,z0,z1,z2,z3,z4,z5,yf0,yf1,yf2,yf3,yf4,yf5,zf0,zf1,zf2,zf3,zf4,zf5,yl,zl]) rfl ?_;refine (fun (hRl : Rls (w.heap.size + 2) t w2 _)=>⟨EA,en,ec,LA,ln,lc,q0,q1,q2,q3,I,p,q,GA,gn,gc,KA,kn,kc,a,b,d,rfl,hp15,?_,?_,t,Nat.le_trans (by rw [Hbe.out];exact ht) hRl.size,hP3.step hRl⟩) ?_
      ·
       refine Rls.trans ?_ (.bel (bDrew (Below.refl _ _)))
       iterate 12 (refine Rls.set ?_ (Or.inl Om) _ _)
       exact F.rl
      ·
       refine Cx.mono (k:=k + 150030) ?_ Om;refine Cx.below ?_ (bDrew (Below.refl _ _))
       iterate 12 (refine Cx.set ?_ Om Om _ _)
       exact F.cx
      ·
       refine World.grownBy.trans ?_ (grownBy_of_below (bDrew (Below.refl _ _)))
       iterate 12 (refine grow_set ?_ Om _ _)
       exact F.gr
     ⟩;by exact inferInstanceAs (Nonempty _)) (fun h=>h)
   ⟩;by exact inferInstanceAs (Nonempty _)) (fun h=>h)
end Go.Proofs.YtlfhhkgleapamaaGreatDoor
