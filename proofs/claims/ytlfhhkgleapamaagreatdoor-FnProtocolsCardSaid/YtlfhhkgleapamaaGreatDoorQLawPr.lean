/- The law FnProtocols returns true for every input. Conditions: the tables. -/
import Derived.Test.YtlfhhkgleapamaaGreatDoorQLawPs
import Derived.Deep.DeepCutAuto
set_option linter.unusedVariables false
set_option linter.unusedSimpArgs false
set_option maxRecDepth 100000
set_option maxHeartbeats 16000000
namespace Go.Proofs.YtlfhhkgleapamaaGreatDoor
open Go.ChangeShapes Go.WideShapes Go.ChangeAt Go.RowKit
theorem law_Protocols (w : World) (A0 : OA) (n0 c0 : Nat) (l0 : List Int) (ha0 : RdY w A0 n0 l0) (hm0 : n0 <= 9223372036854775807) (A1 : OA) (n1 c1 : Nat) (l1 : List Int) (ha1 : RdY w A1 n1 l1) (hm1 : n1 <= 9223372036854775807) (hTab : Tab w) (hSg : Sgn w) (hMx : Mxl w) :
  Calls Tryz.prog 3 #[.slice A0 n0 c0, .slice A1 n1 c1] w fun e w' => e = .returned (.bool true) /\ Below w.heap.size w w' := by
 go_enter Tryz.func3, Tryz.ntmps3;go_wp2_with fail
 refine (big_any _ _ _ _ _ _ _ hm0 hm1).mono ?_;rintro e w1 ⟨⟨b, rfl⟩, rfl⟩
 cases b
 case true =>
  go_wp2;go_ret;exact ⟨rfl, bL⟩
 go_wp2_with fail
 refine (drawProtocolText_any _ _ _ _ _ ha0 hm0).mono ?_;rintro e wx ⟨EA, en, ec, LA, ln, lc, q0, q1, q2, q3, I, p, q, GA, gn, gc, KA, kn, kc, a, b, d, u, v, els, lims, its, gg, kk, rfl, bx, hil, hc, hi, hm⟩;have hb1 := bAlloc (Below.refl wx.heap.size wx) (oC EA en ec LA ln lc q0 q1 q2 q3);have hb2 := bAlloc (Below.refl _ (wx.alloc (oC EA en ec LA ln lc q0 q1 q2 q3))) (oP I p q GA gn gc KA kn kc a b d);have hbb := hb1.trans (hb2.mono hb1.size);have hx := heap_old (heap_alloc_new wx (oC EA en ec LA ln lc q0 q1 q2 q3)) hb2;have hp := heap_alloc_new (wx.alloc (oC EA en ec LA ln lc q0 q1 q2 q3)) (oP I p q GA gn gc KA kn kc a b d);rw [show (wx.alloc (oC EA en ec LA ln lc q0 q1 q2 q3)).heap.size = wx.heap.size + 1 by simp] at hp;have hs1 : ((wx.alloc (oC EA en ec LA ln lc q0 q1 q2 q3)).alloc (oP I p q GA gn gc KA kn kc a b d)).heap.size = wx.heap.size + 2 := by simp
 have BW := bx.trans (hbb.mono bx.size);have hc1 := hc.below hbb;have hi1 := hi.below hbb;have hm1' := hm.below hbb;have ha2 := ha1.below BW;have hT := hTab.below BW;have hS := hSg.below BW;have hM := hMx.below BW;clear ha0 ha1 hTab hSg hMx hc hi hm hb1 hb2 hbb bx hil;go_wp2_with fail
 generalize (wx.alloc (oC EA en ec LA ln lc q0 q1 q2 q3)).alloc (oP I p q GA gn gc KA kn kc a b d) = w1 at *;generalize wx.heap.size = r at *;have hl0 : r < w1.heap.size := Om;have hl1 : r + 1 < w1.heap.size := Om;clear hs1;obtain ⟨⟨e0, e1, e2, e3, e4, e5⟩, _⟩ := blk6 hx;obtain ⟨⟨f0, f1, f2, f3, f4, f5⟩, _⟩ := blk6 hp;clear hx hp;have cI := fun W (h : Below w1.heap.size w1 W) => implProtocolText_any W EA LA en ln ec lc els lims q0 q1 q2 q3 (hc1.below h) I p q its (hi1.below h) GA KA gn gc kn kc gg kk (hm1'.below h) a b d u v (hT.below h) (hS.below h)
 have cS := fun W (h : Below w1.heap.size w1 W) => specProtocolText_any W EA LA en ln ec lc els lims q0 q1 q2 q3 (hc1.below h) I p q its (hi1.below h) GA KA gn gc kn kc gg kk (hm1'.below h) a b d u v
 have HP : Hid (proB els lims q0 q1 q2 q3 its gg kk a b d u v = true -> proO els lims q0 q1 q2 q3 its gg kk a b d u v = textV els q0 q1 q2 q3 its gg kk a b d u v) := fun h => by unfold proO; rw [if_pos h]
 have HB : Hid (∃ B, proB els lims q0 q1 q2 q3 its gg kk a b d u v = B) := ⟨_, rfl⟩;generalize proO els lims q0 q1 q2 q3 its gg kk a b d u v = so at *;obtain ⟨B, hB⟩ := HB.out;rw [hB] at cI cS HP;have HB2 := Lib.hid hB;clear hB HB;go_upto_if 79 with (first | (go_at_call 7; ((with_reducible refine (cI _ bqq).mono ?_); rintro e w' ⟨x1, rfl, rfl⟩)) | (go_at_call 8; ((with_reducible refine (cS _ bqq).mono ?_); rintro e w' ⟨x2, rfl, rfl⟩)));have HE : Below w1.heap.size w1 (ext (ext w1 x1) x2) := bqq;clear cI cS;generalize ext (ext w1 x1) x2 = w2 at *;have g0 := (HE.cell (p := ⟨r, 0, none⟩) hl0).trans e0; have g1 := (HE.cell (p := ⟨r, 1, none⟩) hl0).trans e1; have g2 := (HE.cell (p := ⟨r, 2, none⟩) hl0).trans e2; have g3 := (HE.cell (p := ⟨r, 3, none⟩) hl0).trans e3; have g4 := (HE.cell (p := ⟨r, 4, none⟩) hl0).trans e4; have g5 := (HE.cell (p := ⟨r, 5, none⟩) hl0).trans e5;have k0 := (HE.cell (p := ⟨r + 1, 0, none⟩) hl1).trans f0; have k1 := (HE.cell (p := ⟨r + 1, 1, none⟩) hl1).trans f1; have k2 := (HE.cell (p := ⟨r + 1, 2, none⟩) hl1).trans f2; have k3 := (HE.cell (p := ⟨r + 1, 3, none⟩) hl1).trans f3; have k4 := (HE.cell (p := ⟨r + 1, 4, none⟩) hl1).trans f4; have k5 := (HE.cell (p := ⟨r + 1, 5, none⟩) hl1).trans f5;have hl2 : r < w2.heap.size := Nat.lt_of_lt_of_le hl0 HE.size;have hl3 : r + 1 < w2.heap.size := Nat.lt_of_lt_of_le hl1 HE.size;have hc2 := hc1.below HE;have hi2 := hi1.below HE;have hm2 := hm1'.below HE;have hT2 := hT.below HE;have hS2 := hS.below HE;have hM2 := hM.below HE;have ha3 := ha2.below HE;have BW2 := BW.trans (HE.mono BW.size);clear e0 e1 e2 e3 e4 e5 f0 f1 f2 f3 f4 f5 hc1 hi1 hm1' hT hS hM ha2 BW HE hl0 hl1
 go_cut [] (fun wq => Below w2.heap.size w2 wq)
 case first =>
  exact Nonempty.elim (α := type_of% ?k1) (letI i : Nonempty (type_of% ?k1) := ⟨by
   clear ha3 BW2
   cases B
   ·
    go_wp2;go_meet;exact Below.refl _ _
   ·
    have hB := HB2.out;have hso := HP.out rfl;have hz := textV_size hB;have hrd := rd_text hB;have hho := pro_holds hB;have hsg := pro_seg hB;have hak := pro_ask hB;rw [<- hso] at hz hrd hho;have hsz : so.size <= 1048576 := Om;have cr := fun W (h : Below w2.heap.size w2 W) => implRd_any W EA LA en ln ec lc els lims q0 q1 q2 q3 (hc2.below h) so hsz (hM2.below h) (hT2.below h) (hS2.below h) _ hrd
    have cp := fun W (h : Below w2.heap.size w2 W) => implProtocolScore_any W EA LA en ln ec lc els lims q0 q1 q2 q3 (hc2.below h) so hsz (hM2.below h) (hT2.below h) (hS2.below h)
    have ci := fun W (h : Below w2.heap.size w2 W) => implSegmentScore_any W EA LA en ln ec lc els lims q0 q1 q2 q3 (hc2.below h) I p q its (hi2.below h) GA KA gn gc kn kc gg kk (hm2.below h) a b d v
    have cs := fun W (h : Below w2.heap.size w2 W) => specSegmentScore_any W EA LA en ln ec lc els lims q0 q1 q2 q3 (hc2.below h) I p q its (hi2.below h) GA KA gn gc kn kc gg kk (hm2.below h) a b d v
    have ch := fun W (h : Below w2.heap.size w2 W) => implProtocolHolds_any W EA LA en ln ec lc els lims q0 q1 q2 q3 (hc2.below h) so hsz (hM2.below h) (hT2.below h) (hS2.below h)
    rw [hrd] at cp ch;rw [hsg, hak] at ci cs;rw [hho] at ch;unfold RetRr at cr;simp only [scoV, Option.getD_some, Option.isSome_some] at cr cp ch;generalize scoreP els q0 q1 q2 q3 its gg kk a b d v = z at *;have cm := fun W (h : Below w2.heap.size w2 W) (I' : OA) (n' c' : Nat) (GA' : OA) (gn' gc' : Nat) (KA' : OA) (kn' kc' : Nat) (h1 : ItsR W I' n' c' its) (h2 : RdMk W GA' gn' KA' kn' gg kk) => pSame_any W I' GA' KA' I GA KA n' c' gn' gc' kn' kc' p q gn gc kn kc its gg kk a b d h1 h2 (hi2.below h) (hm2.below h)
    clear hB hso hrd hho hsg hak HB2 HP hc2 hi2 hm2 hT2 hS2 hM2;go_wp2_with (first | (go_at_call 9; ((with_reducible refine (cr _ bqq).mono ?_); rintro e w' ⟨I', n', c', GA', gn', gc', KA', kn', kc', rfl, ⟨x3, rfl⟩, i3, m3⟩)) | (go_at_call 10; ((with_reducible refine (cp _ bqq).mono ?_); rintro e w' ⟨rfl, x4, rfl⟩)) | (go_at_call 11; ((with_reducible refine (ci _ bqq).mono ?_); rintro e w' ⟨rfl, x5, rfl⟩)) | (go_at_call 12; ((with_reducible refine (cs _ bqq).mono ?_); rintro e w' ⟨rfl, x6, rfl⟩)) | (go_at_call 13; ((with_reducible refine (ch _ bqq).mono ?_); rintro e w' ⟨rfl, x7, rfl⟩)) | (go_at_call 14; ((with_reducible refine ex (cm _ bqq I' n' c' GA' gn' gc' KA' kn' kc' (i3.below bqq) (m3.below bqq)) ?_); intro x8)))
    go_meet;exact bqq
   ⟩; by exact inferInstanceAs (Nonempty _)) (fun h => h)
 case rest =>
  exact Nonempty.elim (α := type_of% ?k2) (letI i : Nonempty (type_of% ?k2) := ⟨by
   have BW3 := BW2.trans (hcut.mono BW2.size);have ha4 := ha3.below hcut;have hT3 := hT2.below hcut;have hS3 := hS2.below hcut;have hM3 := hM2.below hcut;clear hcut BW2 ha3 hT2 hS2 hM2 hc2 hi2 hm2 g0 g1 g2 g3 g4 g5 k0 k1 k2 k3 k4 k5 hl2 hl3 HB2 HP;go_wp2_with fail
   refine (drawReadProtocol_any _ _ _ _ _ ha4 hm1).mono ?_;rintro e wy ⟨EB, fn, fc, LB, mn, mc, r0, r1, r2, r3, s, els', lims', rfl, hs5, by1, hc5⟩;have hby := bAlloc (Below.refl wy.heap.size wy) (oC EB fn fc LB mn mc r0 r1 r2 r3);have hx := heap_alloc_new wy (oC EB fn fc LB mn mc r0 r1 r2 r3);have BW4 := BW3.trans (by1.mono BW3.size);have BW5 := BW4.trans (hby.mono BW4.size);have hc6 := hc5.below hby
   have hT6 := (hT3.below by1).below hby
   have hS6 := (hS3.below by1).below hby
   have hM6 := (hM3.below by1).below hby
   clear BW3 BW4 by1 hby hc5 hT3 hS3 hM3 ha4;have Hx := heap_alloc_new wy (oC EB fn fc LB mn mc r0 r1 r2 r3);go_wp2_with fail
   generalize wy.alloc (oC EB fn fc LB mn mc r0 r1 r2 r3) = w6 at *;generalize wy.heap.size = r' at *;clear hx;have hsz : s.size <= 1048576 := Om;obtain ⟨o, ho⟩ : ∃ o, rdP els' lims' r0 r1 r2 r3 s = o := ⟨_, rfl⟩;have cr := fun W (h : Below w6.heap.size w6 W) => implRd_any W EB LB fn mn fc mc els' lims' r0 r1 r2 r3 (hc6.below h) s hsz (hM6.below h) (hT6.below h) (hS6.below h) o ho
   have cr2 := fun W (h : Below w6.heap.size w6 W) => specRd_any W EB LB fn mn fc mc els' lims' r0 r1 r2 r3 (hc6.below h) s hsz o ho
   have ch := fun W (h : Below w6.heap.size w6 W) => implProtocolHolds_any W EB LB fn mn fc mc els' lims' r0 r1 r2 r3 (hc6.below h) s hsz (hM6.below h) (hT6.below h) (hS6.below h)
   have ch2 := fun W (h : Below w6.heap.size w6 W) => specProtocolHolds_any W EB LB fn mn fc mc els' lims' r0 r1 r2 r3 (hc6.below h) s hsz
   have cp := fun W (h : Below w6.heap.size w6 W) => implProtocolScore_any W EB LB fn mn fc mc els' lims' r0 r1 r2 r3 (hc6.below h) s hsz (hM6.below h) (hT6.below h) (hS6.below h)
   have cp2 := fun W (h : Below w6.heap.size w6 W) => specProtocolScore_any W EB LB fn mn fc mc els' lims' r0 r1 r2 r3 (hc6.below h) s hsz
   have hG : o.isSome = true -> proB els' lims' r0 r1 r2 r3 (o.getD zPR).1 (o.getD zPR).2.1.1 (o.getD zPR).2.1.2 (o.getD zPR).2.2.1.1 (o.getD zPR).2.2.1.2.1 (o.getD zPR).2.2.1.2.2 (o.getD zPR).2.2.2.1 (o.getD zPR).2.2.2.2 = true /\ textV els' r0 r1 r2 r3 (o.getD zPR).1 (o.getD zPR).2.1.1 (o.getD zPR).2.1.2 (o.getD zPR).2.2.1.1 (o.getD zPR).2.2.1.2.1 (o.getD zPR).2.2.1.2.2 (o.getD zPR).2.2.2.1 (o.getD zPR).2.2.2.2 = s := by
    intro h
    cases o with
    | none => cases h
    | some v => exact ⟨rd_good ho, rd_text_of ho⟩
   rw [ho] at ch ch2 cp cp2;unfold RetRr at cr cr2;clear ho;generalize holdsK els' lims' r0 r1 r2 r3 s = K at *;generalize scoV els' r0 r1 r2 r3 o = z at *;generalize o.getD zPR = v' at *;generalize o.isSome = ok at *;obtain ⟨its', ⟨gg', kk'⟩, ⟨s1, s2, s3⟩, sk, fa⟩ := v';simp only at cr cr2 hG;have HG := Lib.hid hG;clear hG;have Bx := Below.refl w6.heap.size w6;obtain ⟨kx0, kx1, kx2, kx3, kx4, kx5, kx6⟩ := blkl Hx;refine (cr w6 Bx).mono ?_;rintro e W1 ⟨I7, n7, c7, GA7, gn7, gc7, KA7, kn7, kc7, rfl, ⟨x7, hw⟩, i7, m7⟩;have hb : Below w6.heap.size w6 W1 := by rw [hw]; exact ext_below _ _
   clear hw;clear kx0 kx1 kx2 kx3 kx4 kx5 kx6
   replace Bx := bt Bx hb
   replace Hx := heap_old Hx hb
   clear hb;obtain ⟨kx0, kx1, kx2, kx3, kx4, kx5, kx6⟩ := blkl Hx;have Bq := Below.refl W1.heap.size W1;have i7 := i7; have m7 := m7;go_wp2_with fail
   clear kx0 kx1 kx2 kx3 kx4 kx5 kx6;have hb := bAlloc (Below.refl W1.heap.size W1) (oP I7 n7 c7 GA7 gn7 gc7 KA7 kn7 kc7 s1 s2 s3);have Hq := heap_alloc_new W1 (oP I7 n7 c7 GA7 gn7 gc7 KA7 kn7 kc7 s1 s2 s3)
   replace Bx := bt Bx hb
   replace Bq := bt Bq hb
   replace Hx := heap_old Hx hb
   clear hb;generalize (W1.alloc (oP I7 n7 c7 GA7 gn7 gc7 KA7 kn7 kc7 s1 s2 s3)) = W2 at *;refine (cr2 W2 Bx).mono ?_;rintro e W3 ⟨I8, n8, c8, GA8, gn8, gc8, KA8, kn8, kc8, rfl, ⟨x8, hw⟩, i8, m8⟩;have hb : Below W2.heap.size W2 W3 := by rw [hw]; exact ext_below _ _
   clear hw
   replace Bx := bt Bx hb
   replace Bq := bt Bq hb
   replace Hx := heap_old Hx hb
   replace Hq := heap_old Hq hb
   clear hb;obtain ⟨kx0, kx1, kx2, kx3, kx4, kx5, kx6⟩ := blkl Hx;obtain ⟨kq0, kq1, kq2, kq3, kq4, kq5, kq6⟩ := blkl Hq;have Bp := Below.refl W3.heap.size W3;go_wp2_with fail
   clear kx0 kx1 kx2 kx3 kx4 kx5 kx6 kq0 kq1 kq2 kq3 kq4 kq5 kq6;have hb := bAlloc (Below.refl W3.heap.size W3) (oP I8 n8 c8 GA8 gn8 gc8 KA8 kn8 kc8 s1 s2 s3);have Hp := heap_alloc_new W3 (oP I8 n8 c8 GA8 gn8 gc8 KA8 kn8 kc8 s1 s2 s3)
   replace Bx := bt Bx hb
   replace Bq := bt Bq hb
   replace Bp := bt Bp hb
   replace Hx := heap_old Hx hb
   replace Hq := heap_old Hq hb
   clear hb;generalize (W3.alloc (oP I8 n8 c8 GA8 gn8 gc8 KA8 kn8 kc8 s1 s2 s3)) = W4 at *;refine (ch W4 Bx).mono ?_;rintro e W5 ⟨rfl, x9, hw⟩;have hb : Below W4.heap.size W4 W5 := by rw [hw]; exact ext_below _ _
   clear hw
   replace Bx := bt Bx hb
   replace Bq := bt Bq hb
   replace Bp := bt Bp hb
   replace Hx := heap_old Hx hb
   replace Hq := heap_old Hq hb
   replace Hp := heap_old Hp hb
   clear hb;obtain ⟨kx0, kx1, kx2, kx3, kx4, kx5, kx6⟩ := blkl Hx;obtain ⟨kq0, kq1, kq2, kq3, kq4, kq5, kq6⟩ := blkl Hq;obtain ⟨kp0, kp1, kp2, kp3, kp4, kp5, kp6⟩ := blkl Hp;go_wp2_with fail
   refine (ch2 W5 Bx).mono ?_;rintro e W6 ⟨rfl, x10, hw⟩;have hb : Below W5.heap.size W5 W6 := by rw [hw]; exact ext_below _ _
   clear hw;clear kx0 kx1 kx2 kx3 kx4 kx5 kx6 kq0 kq1 kq2 kq3 kq4 kq5 kq6 kp0 kp1 kp2 kp3 kp4 kp5 kp6
   replace Bx := bt Bx hb
   replace Bq := bt Bq hb
   replace Bp := bt Bp hb
   replace Hx := heap_old Hx hb
   replace Hq := heap_old Hq hb
   replace Hp := heap_old Hp hb
   clear hb;obtain ⟨kx0, kx1, kx2, kx3, kx4, kx5, kx6⟩ := blkl Hx;obtain ⟨kq0, kq1, kq2, kq3, kq4, kq5, kq6⟩ := blkl Hq;obtain ⟨kp0, kp1, kp2, kp3, kp4, kp5, kp6⟩ := blkl Hp;go_wp2_with fail
   refine (cp W6 Bx).mono ?_;rintro e W7 ⟨rfl, x11, hw⟩;have hb : Below W6.heap.size W6 W7 := by rw [hw]; exact ext_below _ _
   clear hw;clear kx0 kx1 kx2 kx3 kx4 kx5 kx6 kq0 kq1 kq2 kq3 kq4 kq5 kq6 kp0 kp1 kp2 kp3 kp4 kp5 kp6
   replace Bx := bt Bx hb
   replace Bq := bt Bq hb
   replace Bp := bt Bp hb
   replace Hx := heap_old Hx hb
   replace Hq := heap_old Hq hb
   replace Hp := heap_old Hp hb
   clear hb;obtain ⟨kx0, kx1, kx2, kx3, kx4, kx5, kx6⟩ := blkl Hx;obtain ⟨kq0, kq1, kq2, kq3, kq4, kq5, kq6⟩ := blkl Hq;obtain ⟨kp0, kp1, kp2, kp3, kp4, kp5, kp6⟩ := blkl Hp;go_wp2_with fail
   refine (cp2 W7 Bx).mono ?_;rintro e W8 ⟨rfl, x12, hw⟩;have hb : Below W7.heap.size W7 W8 := by rw [hw]; exact ext_below _ _
   clear hw;clear kx0 kx1 kx2 kx3 kx4 kx5 kx6 kq0 kq1 kq2 kq3 kq4 kq5 kq6 kp0 kp1 kp2 kp3 kp4 kp5 kp6
   replace Bx := bt Bx hb
   replace Bq := bt Bq hb
   replace Bp := bt Bp hb
   replace Hx := heap_old Hx hb
   replace Hq := heap_old Hq hb
   replace Hp := heap_old Hp hb
   clear hb;obtain ⟨kx0, kx1, kx2, kx3, kx4, kx5, kx6⟩ := blkl Hx;obtain ⟨kq0, kq1, kq2, kq3, kq4, kq5, kq6⟩ := blkl Hq;obtain ⟨kp0, kp1, kp2, kp3, kp4, kp5, kp6⟩ := blkl Hp;go_wp2_with fail
   refine (pSame_any W8 I7 GA7 KA7 I8 GA8 KA8 n7 c7 gn7 gc7 kn7 kc7 n8 c8 gn8 gc8 kn8 kc8 its' gg' kk' s1 s2 s3 (i7.below Bq) (m7.below Bq) (i8.below Bp) (m8.below Bp)).mono ?_;rintro e W9 ⟨rfl, x13, hw⟩;have hb : Below W8.heap.size W8 W9 := by rw [hw]; exact ext_below _ _
   clear hw;clear kx0 kx1 kx2 kx3 kx4 kx5 kx6 kq0 kq1 kq2 kq3 kq4 kq5 kq6 kp0 kp1 kp2 kp3 kp4 kp5 kp6
   replace Bx := bt Bx hb
   replace Bq := bt Bq hb
   replace Bp := bt Bp hb
   replace Hx := heap_old Hx hb
   replace Hq := heap_old Hq hb
   replace Hp := heap_old Hp hb
   clear hb;obtain ⟨kx0, kx1, kx2, kx3, kx4, kx5, kx6⟩ := blkl Hx;obtain ⟨kq0, kq1, kq2, kq3, kq4, kq5, kq6⟩ := blkl Hq;obtain ⟨kp0, kp1, kp2, kp3, kp4, kp5, kp6⟩ := blkl Hp;clear cr cr2 ch ch2 cp cp2 i8 m8;go_upto_if 256 with fail
   cases ok
   ·
    go_wp2;go_ret;exact ⟨rfl, BW5.trans (Bx.mono BW5.size)⟩
   ·
    obtain ⟨hB, ht⟩ := HG.out rfl;have ct := implProtocolText_any W9 EB LB fn mn fc mc els' lims' r0 r1 r2 r3 (hc6.below Bx) I7 n7 c7 its' (i7.below Bq) GA7 KA7 gn7 gc7 kn7 kc7 gg' kk' (m7.below Bq) s1 s2 s3 sk fa (hT6.below Bx) (hS6.below Bx);unfold proO at ct;rw [if_pos hB, ht, hB] at ct;clear HG hB ht;go_wp2_with fail
    refine (ct).mono ?_;rintro e W10 ⟨x14, rfl, hw⟩;have hb : Below W9.heap.size W9 W10 := by rw [hw]; exact ext_below _ _
    clear hw
    replace Bx := bt Bx hb
    clear hb;go_wp2;go_ret;exact ⟨by simp, BW5.trans (Bx.mono BW5.size)⟩
   ⟩; by exact inferInstanceAs (Nonempty _)) (fun h => h)
end Go.Proofs.YtlfhhkgleapamaaGreatDoor
