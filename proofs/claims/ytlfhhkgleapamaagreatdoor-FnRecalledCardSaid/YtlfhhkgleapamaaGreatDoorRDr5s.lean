/- What the reference draws of codes: any code. Conditions: none. -/
import Derived.Test.YtlfhhkgleapamaaGreatDoorRDr4
set_option linter.unusedVariables false
set_option linter.unusedSimpArgs false
set_option maxRecDepth 100000
set_option maxHeartbeats 16000000
namespace Go.Proofs.YtlfhhkgleapamaaGreatDoor
open Go.RowKit
def FC (R w W : World) (g b : Nat) (A : OA) (n c k : Nat) (l : List Int) : Prop:=∃ κ EA en ec LA ln lc q0 q1 q2 q3,CB R w W g b A n c k l κ EA en ec LA ln lc q0 q1 q2 q3 /\ en <= 100 /\ ln <= 10
theorem CB.fc {R w W : World} {g b n c k k' : Nat} {A : OA} {l : List Int} {κ : Kf} {EA : OA} {en ec : Nat} {LA : OA} {ln lc : Nat} {q0 q1 q2 q3 : Int} (F : CB R w W g b A n c k l κ EA en ec LA ln lc q0 q1 q2 q3) (hk : k <= k') (h1 : en <= 100) (h2 : ln <= 10) : FC R w W g b A n c k' l:=⟨_,_,_,_,_,_,_,_,_,_,_,F.mono hk,h1,h2⟩
theorem anyCode_any {R w : World} {g n c k : Nat} {A : OA} {l : List Int} (h : Cx R w g A n c k l) (hk : k <= 800000) :
  Calls Tryz.prog 97 #[.pointer (some ⟨g,0,none⟩)] w (RetPC R w g A n c (k + 1100) l 0 0):=by
 have hgl:=h.cur.lt;have h0:=h.below (bAlloc (Below.refl _ w) zCode);have z0:=heap_alloc_new w zCode;have gg0:=World.grownBy_alloc w zCode (some g);have hsz0 : (w.alloc zCode).heap.size = w.heap.size + 1:=by simp
 go_enter Tryz.func97,Tryz.ntmps97;simp only [zCode] at h0 z0 gg0 hsz0;go_wp2_with fail
 generalize w.alloc (oC none 0 0 none 0 0 0 0 0 0) = w1 at *;refine (pointsCode_any h0 Om).mono ?_;rintro e w2 ⟨EA,en,ec,LA,ln,lc,q0,q1,q2,q3,rfl,h2,g2,hC,he1,hl5,hl6⟩;have heb:=hC.2.2.2.1;have hlb:=hC.2.2.2.2;have F1:=CB.new (q0:=q0) (q1:=q1) (q2:=q2) (q3:=q3) h2 g2 Om hC;clear h2 g2 hC h0;go_wp2_with fail
 generalize w2.alloc (oC EA en ec LA ln lc q0 q1 q2 q3) = W1 at *;generalize w2.heap.size = b at *;refine (pick_cx F1.cx en Om Om Om).mono ?_;intro e w3 hp;obtain ⟨v3,⟨ha0,ha1⟩,rfl,h3,g3⟩:=F1.cx.pick hp;have F2:=F1.step h3 g3;obtain ⟨kk,rfl⟩ : ∃ kk : Nat,v3 = kk:=⟨v3.toNat,Om⟩;have hkk : kk < en:=Om;clear hp F1 h3 g3 ha0 ha1;go_wp2_with fail
 refine (pick_cx F2.cx 30 Om Om Om).mono ?_;intro e w4 hp;obtain ⟨sw,⟨hb0,hb1⟩,rfl,h4,g4⟩:=F2.cx.pick hp;have F:=F2.step h4 g4;clear hp F2 h4 g4;go_upto_block 0 with fail
 go_cut [] (fun wq=>FC R w1 wq g b A n c (k + 1100) l)
 case first =>
  exact Nonempty.elim (α:=type_of% ?k2) (letI i : Nonempty (type_of% ?k2):=⟨by
   clear z0 gg0 hsz0 hgl h;have hkkI : (kk : Int) < en:=Om;by_cases s0 : sw = 0
   ·
    subst s0;obtain ⟨z,rfl,hz,hzb,hf,hc,hs⟩:=F.setE he1;have hsm : ∀ x ∈ [(⟨#[]⟩ : ByteArray),(⟨#[51,97]⟩ : ByteArray),(⟨#[65,66,67,68,69,70]⟩ : ByteArray),(⟨#[51,65]⟩ : ByteArray),(⟨#[90,90,90,90,90]⟩ : ByteArray),(⟨#[48]⟩ : ByteArray)],x.size <= 100:=by decide
    have co:=of_litD F.cx Om [(⟨#[]⟩ : ByteArray),(⟨#[51,97]⟩ : ByteArray),(⟨#[65,66,67,68,69,70]⟩ : ByteArray),(⟨#[51,65]⟩ : ByteArray),(⟨#[90,90,90,90,90]⟩ : ByteArray),(⟨#[48]⟩ : ByteArray)] 6 w4.heap.size rfl rfl Om Om #[.string ⟨#[]⟩,.string ⟨#[51,97]⟩,.string ⟨#[65,66,67,68,69,70]⟩,.string ⟨#[51,65]⟩,.string ⟨#[90,90,90,90,90]⟩,.string ⟨#[48]⟩] rfl 6;obtain ⟨⟨ca0,ca1,ca2,ca3,ca4,ca5⟩,fb0,fb1,fb2,fb3,fb4,fb5⟩:=F.cells;have hlF:=F.lt_;go_upto_region 5 with fail
    go_region_law (first | (go_simp;go_at_call 145;with_reducible refine co.mono ?_;rintro e w5 ⟨s,hsL,rfl,h5,g5⟩;have F5:=F.step h5 g5;obtain ⟨⟨da0,da1,da2,da3,da4,da5⟩,eb0,eb1,eb2,eb3,eb4,eb5⟩:=F5.cells;have hlF5:=F5.lt_;obtain ⟨z5,ez,hz5,hzb5,hf5,hc5,hs5⟩:=F5.setE he1;obtain rfl : z = z5:=(by simpa using ez);have hf5a:=hf5 (kk * 4);obtain ⟨v5,hc5a⟩:=hc5 (kk * 4) Om))
    all_goals
     go_wp2;go_meet;exact ((hs5 kk hkk).1 s (hsm s hsL)).fc Om Om Om
   by_cases s1 : sw = 1
   ·
    subst s1;obtain ⟨z,rfl,hz,hzb,hf,hc,hs⟩:=F.setE he1;have co:=among_litD F.cx Om [-1,4,5] 3 w4.heap.size rfl rfl Om Om #[.int .i64 (-1),.int .i64 4,.int .i64 5] rfl 3;obtain ⟨⟨ca0,ca1,ca2,ca3,ca4,ca5⟩,fb0,fb1,fb2,fb3,fb4,fb5⟩:=F.cells;have hlF:=F.lt_;go_upto_region 7 with fail
    go_region_law (first | (go_simp;go_at_call 73;with_reducible refine co.mono ?_;intro e w5 hp;obtain ⟨s,hsL,rfl,h5,g5⟩:=RetAl.out hp;have F5:=F.step h5 g5;obtain ⟨⟨da0,da1,da2,da3,da4,da5⟩,eb0,eb1,eb2,eb3,eb4,eb5⟩:=F5.cells;have hlF5:=F5.lt_;obtain ⟨z5,ez,hz5,hzb5,hf5,hc5,hs5⟩:=F5.setE he1;obtain rfl : z = z5:=(by simpa using ez);have hf5a:=hf5 (kk * 4 + 1);obtain ⟨v5,hc5a⟩:=hc5 (kk * 4 + 1) Om))
    all_goals
     go_wp2;go_meet;exact ((hs5 kk hkk).2.1 s).fc Om Om Om
   by_cases s2 : sw = 2
   ·
    subst s2;obtain ⟨z,rfl,hz,hzb,hf,hc,hs⟩:=F.setE he1;have co:=among_litD F.cx Om [-1,4,5] 3 w4.heap.size rfl rfl Om Om #[.int .i64 (-1),.int .i64 4,.int .i64 5] rfl 3;obtain ⟨⟨ca0,ca1,ca2,ca3,ca4,ca5⟩,fb0,fb1,fb2,fb3,fb4,fb5⟩:=F.cells;have hlF:=F.lt_;go_upto_region 9 with fail
    go_region_law (first | (go_simp;go_at_call 73;with_reducible refine co.mono ?_;intro e w5 hp;obtain ⟨s,hsL,rfl,h5,g5⟩:=RetAl.out hp;have F5:=F.step h5 g5;obtain ⟨⟨da0,da1,da2,da3,da4,da5⟩,eb0,eb1,eb2,eb3,eb4,eb5⟩:=F5.cells;have hlF5:=F5.lt_;obtain ⟨z5,ez,hz5,hzb5,hf5,hc5,hs5⟩:=F5.setE he1;obtain rfl : z = z5:=(by simpa using ez);have hf5a:=hf5 (kk * 4 + 2);obtain ⟨v5,hc5a⟩:=hc5 (kk * 4 + 2) Om))
    all_goals
     go_wp2;go_meet;exact ((hs5 kk hkk).2.2.1 s).fc Om Om Om
   by_cases s3 : sw = 3
   ·
    subst s3;obtain ⟨z,rfl,hz,hzb,hf,hc,hs⟩:=F.setE he1;have co:=among_litD F.cx Om [0,1,2000,2001] 4 w4.heap.size rfl rfl Om Om #[.int .i64 0,.int .i64 1,.int .i64 2000,.int .i64 2001] rfl 4;obtain ⟨⟨ca0,ca1,ca2,ca3,ca4,ca5⟩,fb0,fb1,fb2,fb3,fb4,fb5⟩:=F.cells;have hlF:=F.lt_;go_upto_region 11 with fail
    go_region_law (first | (go_simp;go_at_call 73;with_reducible refine co.mono ?_;intro e w5 hp;obtain ⟨s,hsL,rfl,h5,g5⟩:=RetAl.out hp;have F5:=F.step h5 g5;obtain ⟨⟨da0,da1,da2,da3,da4,da5⟩,eb0,eb1,eb2,eb3,eb4,eb5⟩:=F5.cells;have hlF5:=F5.lt_;obtain ⟨z5,ez,hz5,hzb5,hf5,hc5,hs5⟩:=F5.setE he1;obtain rfl : z = z5:=(by simpa using ez);have hf5a:=hf5 (kk * 4 + 3);obtain ⟨v5,hc5a⟩:=hc5 (kk * 4 + 3) Om))
    all_goals
     go_wp2;go_meet;exact ((hs5 kk hkk).2.2.2 s).fc Om Om Om
   by_cases s4 : sw = 4
   ·
    subst s4;have hl1 : 1 <= ln:=Om;obtain ⟨z,rfl,hz,hzb,hf,hc,hs⟩:=F.setL hl1;obtain ⟨⟨ca0,ca1,ca2,ca3,ca4,ca5⟩,fb0,fb1,fb2,fb3,fb4,fb5⟩:=F.cells;have hlF:=F.lt_;have hgw4:=F.cx.cur.lt;go_upto_region 13 with fail
    go_region_law (first | (go_simp;go_at_call 56;first | (with_reducible refine (pick_cx (F.drew).cx 5 Om Om Om).mono ?_;intro e w8 hp;obtain ⟨v8,⟨hv0,hv1⟩,rfl,h8,g8⟩:=(F.drew).cx.pick hp;have F8:=(F.drew).step h8 g8;obtain ⟨i8,rfl⟩ : ∃ i : Nat,v8 = i:=⟨v8.toNat,Om⟩;have hi8 : i8 < ln:=Om;have hi8I : (i8 : Int) < ln:=Om;obtain ⟨⟨da0,da1,da2,da3,da4,da5⟩,eb0,eb1,eb2,eb3,eb4,eb5⟩:=F8.cells;have hlF8:=F8.lt_) | (with_reducible refine (pick_cx ((F.below (bAlloc (Below.refl _ _) (.cells #[.int .i64 (-1),.int .i64 9,.int .i64 10] 3))).drew).cx 5 Om Om Om).mono ?_;intro e w8 hp;obtain ⟨v8,⟨hv0,hv1⟩,rfl,h8,g8⟩:=((F.below (bAlloc (Below.refl _ _) (.cells #[.int .i64 (-1),.int .i64 9,.int .i64 10] 3))).drew).cx.pick hp;have F8:=((F.below (bAlloc (Below.refl _ _) (.cells #[.int .i64 (-1),.int .i64 9,.int .i64 10] 3))).drew).step h8 g8;have RL8:=(LitR.mk hgw4 [-1,9,10] 3 rfl Om #[.int .i64 (-1),.int .i64 9,.int .i64 10] rfl).drew.step g8;obtain ⟨i8,rfl⟩ : ∃ i : Nat,v8 = i:=⟨v8.toNat,Om⟩;have hi8 : i8 < ln:=Om;have hi8I : (i8 : Int) < ln:=Om;obtain ⟨⟨da0,da1,da2,da3,da4,da5⟩,eb0,eb1,eb2,eb3,eb4,eb5⟩:=F8.cells;have hlF8:=F8.lt_)) | (go_simp;go_at_call 73;first | (with_reducible refine (among_lit F8.cx Om [-1,9,10] 3 _ rfl rfl Om Om #[.int .i64 (-1),.int .i64 9,.int .i64 10] rfl 3).mono ?_;intro e w10 hp;obtain ⟨r,hr,rfl,h10,g10⟩:=RetAl.out hp;have F10:=F8.step h10 g10;obtain ⟨⟨sa0,sa1,sa2,sa3,sa4,sa5⟩,zb0,zb1,zb2,zb3,zb4,zb5⟩:=F10.cells;have hlF10:=F10.lt_;obtain ⟨z5,ez,hz5,hzb5,hf5,hc5,hs5⟩:=F10.setL hl1;obtain rfl : z = z5:=(by simpa using ez);have hf5a:=hf5 i8;obtain ⟨v5,hc5a⟩:=hc5 i8 hi8) | (with_reducible refine (RL8.among F8.cx Om Om Om 3).mono ?_;intro e w10 hp;obtain ⟨r,hr,rfl,h10,g10⟩:=RetAl.out hp;have F10:=F8.step h10 g10;obtain ⟨⟨sa0,sa1,sa2,sa3,sa4,sa5⟩,zb0,zb1,zb2,zb3,zb4,zb5⟩:=F10.cells;have hlF10:=F10.lt_;obtain ⟨z5,ez,hz5,hzb5,hf5,hc5,hs5⟩:=F10.setL hl1;obtain rfl : z = z5:=(by simpa using ez);have hf5a:=hf5 i8;obtain ⟨v5,hc5a⟩:=hc5 i8 hi8)))
    all_goals
     go_wp2;go_meet;exact (hs5 i8 r).fc Om Om Om
   by_cases s5 : sw = 5
   ·
    subst s5;have F10:=F.below (bAlloc (Below.refl _ _) (.cells #[.int .i64 0] 3));obtain ⟨ml,hml,hnext⟩:=F10.pushL;have hj1 : ln + 1 <= 1099511627776:=Om;obtain ⟨⟨ca0,ca1,ca2,ca3,ca4,ca5⟩,fb0,fb1,fb2,fb3,fb4,fb5⟩:=F.cells;have hlF:=F.lt_;go_wp2_with (at_builtin;(refine wpl_step fun E=>?_);refine app_int rfl _ _ F10.le rfl rfl hj1 rfl hml (newI _ 0) ?_;intro A2 c2' w11 ho hg hd;obtain ⟨hz7,F11⟩:=hnext A2 c2' w11 _ ho hg hd;obtain ⟨⟨y0,y1,y2,y3,y4,y5⟩,x0,x1,x2,x3,x4,x5⟩:=blk6 hz7;have hlt7:=(Array.getElem?_eq_some_iff.1 hz7).1)
    go_meet;exact ⟨_,_,_,_,_,_,_,_,_,_,_,F11.mono Om,Om,Om⟩
   by_cases s6 : sw = 6
   ·
    subst s6;go_wp2_with fail
    refine (among_lit F.cx Om [0,3,4] 3 _ rfl rfl Om Om #[.int .i64 0,.int .i64 3,.int .i64 4] rfl 3).mono ?_;intro e w5 hp;obtain ⟨r,_,rfl,h5,g5⟩:=RetAl.out hp;have F5:=F.step h5 g5;clear hp F h5 g5;obtain ⟨⟨ca0,ca1,ca2,ca3,ca4,ca5⟩,fb0,fb1,fb2,fb3,fb4,fb5⟩:=F5.cells;have hlF5:=F5.lt_;go_wp2;go_meet;exact (F5.setQ0 r).fc Om Om Om
   by_cases s7 : sw = 7
   ·
    subst s7;go_wp2_with fail
    refine (among_lit F.cx Om [-1,20,21] 3 _ rfl rfl Om Om #[.int .i64 (-1),.int .i64 20,.int .i64 21] rfl 3).mono ?_;intro e w5 hp;obtain ⟨r,_,rfl,h5,g5⟩:=RetAl.out hp;have F5:=F.step h5 g5;clear hp F h5 g5;obtain ⟨⟨ca0,ca1,ca2,ca3,ca4,ca5⟩,fb0,fb1,fb2,fb3,fb4,fb5⟩:=F5.cells;have hlF5:=F5.lt_;go_wp2;go_meet;exact (F5.setQ1 r).fc Om Om Om
   by_cases s8 : sw = 8
   ·
    subst s8;go_wp2_with fail
    refine (among_lit F.cx Om [49,50,100,101] 4 _ rfl rfl Om Om #[.int .i64 49,.int .i64 50,.int .i64 100,.int .i64 101] rfl 4).mono ?_;intro e w5 hp;obtain ⟨r,_,rfl,h5,g5⟩:=RetAl.out hp;have F5:=F.step h5 g5;clear hp F h5 g5;obtain ⟨⟨ca0,ca1,ca2,ca3,ca4,ca5⟩,fb0,fb1,fb2,fb3,fb4,fb5⟩:=F5.cells;have hlF5:=F5.lt_;go_wp2;go_meet;exact (F5.setQ2 r).fc Om Om Om
   by_cases s9 : sw = 9
   ·
    subst s9;go_wp2_with fail
    refine (among_lit F.cx Om [-1,500,501] 3 _ rfl rfl Om Om #[.int .i64 (-1),.int .i64 500,.int .i64 501] rfl 3).mono ?_;intro e w5 hp;obtain ⟨r,_,rfl,h5,g5⟩:=RetAl.out hp;have F5:=F.step h5 g5;clear hp F h5 g5;obtain ⟨⟨ca0,ca1,ca2,ca3,ca4,ca5⟩,fb0,fb1,fb2,fb3,fb4,fb5⟩:=F5.cells;have hlF5:=F5.lt_;go_wp2;go_meet;exact (F5.setQ3 r).fc Om Om Om
   by_cases s10 : sw = 10
   ·
    subst s10;obtain ⟨⟨ca0,ca1,ca2,ca3,ca4,ca5⟩,fb0,fb1,fb2,fb3,fb4,fb5⟩:=F.cells;have hlF:=F.lt_;go_wp2;go_meet;exact F.nilE.fc Om Om Om
   by_cases s11 : sw = 11
   ·
    subst s11;obtain ⟨⟨ca0,ca1,ca2,ca3,ca4,ca5⟩,fb0,fb1,fb2,fb3,fb4,fb5⟩:=F.cells;have hlF:=F.lt_;have F8:=F.nilE;go_upto_region 28 with fail;clear ca0 ca1 ca2 ca3 ca4 ca5 fb0 fb1 fb2 fb3 fb4 fb5 hlF F;generalize w4.setCell ⟨b,0,none⟩ (.slice none 0 0) = w8 at *;go_wp2_with fail
    refine (elementNames_any w8).mono ?_;rintro e w6 ⟨rfl,x,rfl,oN⟩;have hB6:=ext_below w8 x;have oN2:=oN.below (bAlloc (Below.refl _ _) (.cells #[.string ⟨#[90,90]⟩] 9));have hB7 : Below w8.heap.size w8 ((ext w8 x).alloc (.cells #[.string ⟨#[90,90]⟩] 9)):=bAlloc hB6 _;go_wp2_with (at_builtin;(refine wpl_step fun E=>?_);refine app_str rfl _ _ hB7.size rfl rfl (show 24 + 1 <= 1099511627776 by omega) rfl oN2 (newT _ _) ?_;intro A2 c2' w11 ho hg hd)
    have hsm : ∀ x ∈ elNames ++ [(⟨#[90,90]⟩ : ByteArray)],x.size <= 100:=fun x hx=>by
     rcases List.mem_append.1 hx with hx | hx
     ·
      exact elNames_small x hx
     ·
      simp at hx;subst hx;decide
    have hB8 : Below w8.heap.size w8 w11:=below_grown hB7 hg (fun q hq=>by simp [blkOf] at hq;omega);obtain ⟨κ2,hx1,T1,S2,_⟩:=(F8.th.below hB8).upS (s:=w8.heap.size) (ho.mono F8.le) hsm Om (fun z hz=>(ho.blk hz).1);have F6:=F8.withK hB8 T1 hx1;obtain ⟨nb,rfl,hnb1,hnb2⟩:=ho.form_ Om;clear F8 oN oN2 T1 hx1 hB6 hB7 hB8 ho hg hd hsm hnb1 hnb2;go_wp2_with fail
    go_loopw [6,107] (fun _ i wr=>∃ (j : Nat) (EA : OA) (ec : Nat),j <= 25 /\ i = .int .i64 j /\ CB R w1 wr g b A n c (k + 1050) l κ2 EA j ec LA ln lc q0 q1 q2 q3) (fun _ i _=>25 - (intOf i).toNat)
    case atStart=>exact ⟨0,none,0,Om,rfl,F6.mono Om⟩
    case round =>
     exact Nonempty.elim (α:=type_of% ?k1) (letI i : Nonempty (type_of% ?k1):=⟨by
      clear F6;obtain ⟨j,EA,ec,hj,rfl,F⟩:=hrel;by_cases hlt25 : j < 25
      ·
       have hltI : (j : Int) < 25:=Om;obtain ⟨_,nl,oN,sN⟩:=S2.strs F.th;have hcN:=oN.cell_ j hlt25;have hlN:=(oN.blk rfl).2;have hsN : (nl[j]?.getD ByteArray.empty).size <= 100:=sN _ (getD_mem ByteArray.empty nl j (by rw [oN.len];exact hlt25));generalize nl[j]?.getD ByteArray.empty = s at *;clear oN sN;have hen1 : j + 1 <= 1099511627776:=Om;obtain ⟨⟨ca0,ca1,ca2,ca3,ca4,ca5⟩,fb0,fb1,fb2,fb3,fb4,fb5⟩:=F.cells;have hlF:=F.lt_;have F11:=F.below (bAlloc (Below.refl _ _) (.cells #[.string s,.int .i64 0,.int .i64 0,.int .i64 100] 112));obtain ⟨el,hel,hnext⟩:=F11.pushE;go_wp2_with (at_builtin;(refine wpl_step fun E=>?_);refine app_el rfl _ _ F11.le rfl rfl hen1 rfl hel (newEl _ (s,0,0,100)) ?_;intro A2 c2' w11 ho hg hd;obtain ⟨hz7,F12⟩:=hnext A2 c2' w11 (s,0,0,100) hsN ho hg hd;obtain ⟨⟨y0,y1,y2,y3,y4,y5⟩,x0,x1,x2,x3,x4,x5⟩:=blk6 hz7;have hlt7:=(Array.getElem?_eq_some_iff.1 hz7).1)
       go_roundw
       case rel=>exact ⟨j + 1,A2,c2',Om,by go_num,F12⟩
       case measure=>simp [intOf];omega
      ·
       obtain rfl : j = 25:=Om;go_wp2;go_meet;exact F.fc Om Om Om
      ⟩;by exact inferInstanceAs (Nonempty _)) (fun h=>h)
   ·
    go_wp2;go_meet;exact F.fc Om Om Om
   ⟩;by exact inferInstanceAs (Nonempty _)) (fun h=>h)
 case rest =>
  exact Nonempty.elim (α:=type_of% ?k3) (letI i : Nonempty (type_of% ?k3):=⟨by
   obtain ⟨κ,EA,en,ec,LA,ln,lc,q0,q1,q2,q3,F,hu1,hu2⟩:=hcut;obtain ⟨⟨c0,c1,c2,c3,c4,c5⟩,f0,f1,f2,f3,f4,f5⟩:=F.cells;have hlt:=F.lt_;have zz:=heap_kept z0 F.gr Om;obtain ⟨⟨y0,y1,y2,y3,y4,y5⟩,x0,x1,x2,x3,x4,x5⟩:=blk6 zz;have hlr:=(Array.getElem?_eq_some_iff.1 zz).1;go_wp2;refine bodyPost_ret (v:=.agg #[.slice EA en ec,.slice LA ln lc,.int .i64 q0,.int .i64 q1,.int .i64 q2,.int .i64 q3]) (by simp [results,Tryz.results97,go_sem,c0,c1,c2,c3,c4,c5,y0,y1,y2,y3,y4,y5,x0,x1,x2,x3,x4,x5,hlr]) rfl ?_;exact F.toPC gg0 Om hgl Om Om Om Om Om
   ⟩;by exact inferInstanceAs (Nonempty _)) (fun h=>h)
end Go.Proofs.YtlfhhkgleapamaaGreatDoor
