/- The law FnDelays returns true for every input. Conditions: none. -/
import Derived.Test.YtppcmnolkbobfaaDraw12
import Derived.Test.YtppcmnolkbobfaaDelayQ
import Derived.Test.YtppcmnolkbobfaaInts
import Derived.Test.YtppcmnolkbobfaaLiftByte
import Derived.Test.YtppcmnolkbobfaaLawKit
import Derived.Deep.RegionHeld3
import Derived.Deep.DeepCutAuto
set_option linter.unusedVariables false
set_option linter.unusedSimpArgs false
set_option maxRecDepth 100000
namespace Go.Proofs.Ytppcmnolkbobfaa
open Go.ChangeShapes Go.WideShapes Go.ChangeAt Go.RowKit
theorem qInts_self (w : World) (A B : Option Addr) (n m c d : Nat) (l : List Int) (ha : RdI w A n l) (hb : RdI w B m l) (hn : n ≤ 1099511627776) :
    Calls Try.prog 52 #[.slice A n c, .slice B m d] w fun e w' => e = .returned (.bool true) ∧ ∃ x, w' = ext w x :=
  (qInts_any w A B n m c d l l ha hb hn).mono fun e w' h => ⟨by rw [h.1, sameB_iff.2 rfl], h.2⟩
theorem qAbs_any (a : Int) (w : World) (h : -4611686018427387904 ≤ a) (h' : a ≤ 4611686018427387904) :
    Calls Try.prog 66 #[.int .i64 a] w fun e w' => e = .returned (.int .i64 (absI a)) ∧ w = w' := by
  by_cases h0 : a < 0
  · go_enter Try.func66, Try.ntmps66
    go_wp2
    go_ret
    exact ⟨ret_int (by unfold absI; omega), rfl⟩
  · go_enter Try.func66, Try.ntmps66
    go_wp2
    go_ret
    exact ⟨ret_int (by unfold absI; omega), rfl⟩
def slipR (m x a : Int) : Int := if slipOk m x a then slipV m x a else 0
theorem implSlip_any (a b c : Int) (w : World) :
    Calls Try.prog 64 #[.int .i64 a, .int .i64 b, .int .i64 c] w fun e w' => e = .returned (.tuple #[.int .i64 (slipR a b c), .bool (slipOk a b c)]) ∧ w = w' := implMusicSlip_any a b c w
theorem specSlip_any (a b c : Int) (w : World) :
    Calls Try.prog 65 #[.int .i64 a, .int .i64 b, .int .i64 c] w fun e w' => e = .returned (.tuple #[.int .i64 (slipR a b c), .bool (slipOk a b c)]) ∧ w = w' := specMusicSlip_any a b c w
theorem slipR_facts {m x a : Int} (h : slipOk m x a = true) : (1 ≤ m ∧ m ≤ 600 ∧ 1 ≤ x ∧ x ≤ 600 ∧ 0 ≤ a ∧ a ≤ 60) ∧ 0 ≤ slipR m x a ∧ slipR m x a ≤ 1000 ∧ (0 < slipR m x a → absI (m - x) = slipR m x a + a) ∧ (slipR m x a = 0 → absI (m - x) ≤ a) ∧ -1000 ≤ absI (m - x) ∧ absI (m - x) ≤ 1000 := by
  have e : slipR m x a = slipV m x a := by simp [slipR, h]
  rw [e]
  exact slip_facts h
set_option maxHeartbeats 4000000 in
theorem law_Delays (w : World) (A0 : Option Addr) (n0 c0 : Nat) (l0 : List Int) (ha0 : RdY w A0 n0 l0) (hm0 : n0 ≤ 9223372036854775807) (A1 : Option Addr) (n1 c1 : Nat) (l1 : List Int) (ha1 : RdY w A1 n1 l1) (hm1 : n1 ≤ 9223372036854775807) :
    Calls Try.prog 6 #[.slice A0 n0 c0, .slice A1 n1 c1] w fun e w' => e = .returned (.bool true) ∧ Below w.heap.size w w' := by
  by_cases hs : (1048576 : Int) < wrap64 (n0 + n1)
  · go_enter Try.func6, Try.ntmps6
    go_wp2_with fail
    go_ret
    exact ⟨rfl, by repeat (first | exact Below.refl _ _ | assumption | refine bExt ?_ _ | refine bAlloc ?_ _ | refine bDrewN ?_ _ | refine bDrew ?_ | refine bSet ?_ (by first | exact Nat.le_refl _ | omega | (simp; done) | (simp; omega)) _)⟩
  have hsd : decide ((1048576 : Int) < wrap64 (n0 + n1)) = false := decide_eq_false hs
  go_enter Try.func6, Try.ntmps6
  go_wp2_with fail
  refine (drawDelayedTimes_any _ _ _ _ _ ha0 hm0).mono ?_
  rintro e w1 ⟨A, n, c, L, d0, d1, d2, d3, i, dl, x1, rfl, hn, rfl, oA⟩
  have cA := oA.cap_
  have hnb : n ≤ 1099511627776 := by omega
  go_wp2_with fail
  refine (implDelayedTimes_any _ _ _ _ L d0 d1 d2 d3 i dl (oA.rd.below (by repeat (first | exact Below.refl _ _ | assumption | refine bExt ?_ _ | refine bAlloc ?_ _ | refine bDrewN ?_ _ | refine bDrew ?_ | refine bSet ?_ (by first | exact Nat.le_refl _ | omega | (simp; done) | (simp; omega)) _))) hnb cA.1).mono ?_
  rintro e w1 ⟨B, m, d, x2, rfl, rfl, oB⟩
  go_wp2_with fail
  refine (specDelayedTimes_any _ _ _ _ L d0 d1 d2 d3 i dl (oA.rd.below (by repeat (first | exact Below.refl _ _ | assumption | refine bExt ?_ _ | refine bAlloc ?_ _ | refine bDrewN ?_ _ | refine bDrew ?_ | refine bSet ?_ (by first | exact Nat.le_refl _ | omega | (simp; done) | (simp; omega)) _))) hnb).mono ?_
  rintro e w1 ⟨C, p, f, x3, rfl, rfl, oC⟩
  go_wp2_with fail
  refine (drawGreatestGap_any _ _ _ _ _ (ha1.below (by repeat (first | exact Below.refl _ _ | assumption | refine bExt ?_ _ | refine bAlloc ?_ _ | refine bDrewN ?_ _ | refine bDrew ?_ | refine bSet ?_ (by first | exact Nat.le_refl _ | omega | (simp; done) | (simp; omega)) _))) hm1).mono ?_
  rintro e wx ⟨D, q, g, M, b0, b1, b2, b3, en, x4, rfl, hq, hwx, oD⟩
  rw [← hwx] at oD
  have cD := oD.cap_
  have bx : Below w.heap.size w wx := by rw [hwx]; repeat (first | exact Below.refl _ _ | assumption | refine bExt ?_ _ | refine bAlloc ?_ _ | refine bDrewN ?_ _ | refine bDrew ?_ | refine bSet ?_ (by first | exact Nat.le_refl _ | omega | (simp; done) | (simp; omega)) _)
  have rA : RdS wx A n L := oA.rd.below (by rw [hwx]; repeat (first | exact Below.refl _ _ | assumption | refine bExt ?_ _ | refine bAlloc ?_ _ | refine bDrewN ?_ _ | refine bDrew ?_ | refine bSet ?_ (by first | exact Nat.le_refl _ | omega | (simp; done) | (simp; omega)) _))
  have rB : RdI wx B m (delayedV L d0 d1 d2 d3 i dl) := oB.rd.below (by rw [hwx]; repeat (first | exact Below.refl _ _ | assumption | refine bExt ?_ _ | refine bAlloc ?_ _ | refine bDrewN ?_ _ | refine bDrew ?_ | refine bSet ?_ (by first | exact Nat.le_refl _ | omega | (simp; done) | (simp; omega)) _))
  have rC : RdI wx C p (delayedV L d0 d1 d2 d3 i dl) := oC.rd.below (by rw [hwx]; repeat (first | exact Below.refl _ _ | assumption | refine bExt ?_ _ | refine bAlloc ?_ _ | refine bDrewN ?_ _ | refine bDrew ?_ | refine bSet ?_ (by first | exact Nat.le_refl _ | omega | (simp; done) | (simp; omega)) _))
  have rD : RdS wx D q M := oD.rd
  have hd : wx.heap[(ext w x1).heap.size]? = some (.cells #[.int .i64 d0, .int .i64 d1, .int .i64 d2, .int .i64 d3] 56) := heap_old (heap_alloc_new (ext w x1) _) (by rw [hwx]; repeat (first | exact Below.refl _ _ | assumption | refine bExt ?_ _ | refine bAlloc ?_ _ | refine bDrewN ?_ _ | refine bDrew ?_ | refine bSet ?_ (by first | exact Nat.le_refl _ | omega | (simp; done) | (simp; omega)) _))
  have hm : m ≤ 1099511627776 := by rw [← rB.len]; exact Nat.le_trans (delayedV_len _ _ _ _ _ _ _) (by omega)
  have hqb : q ≤ 1099511627776 := by omega
  have ha2 : RdY wx A1 n1 l1 := ha1.below (by rw [hwx]; repeat (first | exact Below.refl _ _ | assumption | refine bExt ?_ _ | refine bAlloc ?_ _ | refine bDrewN ?_ _ | refine bDrew ?_ | refine bSet ?_ (by first | exact Nat.le_refl _ | omega | (simp; done) | (simp; omega)) _))
  clear hwx oA oB oC oD ha0 ha1 hs hsd
  generalize (ext w x1).heap.size = p0 at *
  go_wp2_with fail
  refine (implGreatestGap_any _ _ _ _ M b0 b1 b2 b3 en (rD.below (by repeat (first | exact Below.refl _ _ | assumption | refine bExt ?_ _ | refine bAlloc ?_ _ | refine bDrewN ?_ _ | refine bDrew ?_ | refine bSet ?_ (by first | exact Nat.le_refl _ | omega | (simp; done) | (simp; omega)) _))) hqb cD.1).mono ?_
  rintro e w2 ⟨x5, rfl, rfl⟩
  go_wp2_with fail
  refine (specGreatestGap_any _ _ _ _ M b0 b1 b2 b3 en (rD.below (by repeat (first | exact Below.refl _ _ | assumption | refine bExt ?_ _ | refine bAlloc ?_ _ | refine bDrewN ?_ _ | refine bDrew ?_ | refine bSet ?_ (by first | exact Nat.le_refl _ | omega | (simp; done) | (simp; omega)) _))) hqb).mono ?_
  rintro e w2 ⟨x6, rfl, rfl⟩
  go_wp2_with fail
  refine (drawMusicSlip_any _ _ _ _ _ (ha2.below (by repeat (first | exact Below.refl _ _ | assumption | refine bExt ?_ _ | refine bAlloc ?_ _ | refine bDrewN ?_ _ | refine bDrew ?_ | refine bSet ?_ (by first | exact Nat.le_refl _ | omega | (simp; done) | (simp; omega)) _))) hm1).mono ?_
  rintro e w2 ⟨mu, wa, al, x7, rfl, rfl⟩
  go_upto_if 135 with (first | (go_at_call 64; ((with_reducible refine (implSlip_any _ _ _ _).mono ?_); rintro e w' ⟨rfl, rfl⟩)) | (go_at_call 65; ((with_reducible refine (specSlip_any _ _ _ _).mono ?_); rintro e w' ⟨rfl, rfl⟩)) | (go_at_call 52; ((with_reducible refine (qInts_self _ _ _ _ _ _ _ _ (rB.below (by repeat (first | exact Below.refl _ _ | assumption | refine bExt ?_ _ | refine bAlloc ?_ _ | refine bDrewN ?_ _ | refine bDrew ?_ | refine bSet ?_ (by first | exact Nat.le_refl _ | omega | (simp; done) | (simp; omega)) _))) (rC.below (by repeat (first | exact Below.refl _ _ | assumption | refine bExt ?_ _ | refine bAlloc ?_ _ | refine bDrewN ?_ _ | refine bDrew ?_ | refine bSet ?_ (by first | exact Nat.le_refl _ | omega | (simp; done) | (simp; omega)) _))) hm).mono ?_); rintro e w' ⟨rfl, x8, rfl⟩)))
  have hbb : (ext (ext (ext (ext (wx.alloc (.cells #[.int .i64 b0, .int .i64 b1, .int .i64 b2, .int .i64 b3] 56)) x5) x6) x7) x8).heap[wx.heap.size]? = some (.cells #[.int .i64 b0, .int .i64 b1, .int .i64 b2, .int .i64 b3] 56) := heap_old (heap_alloc_new wx _) (by repeat (first | exact Below.refl _ _ | assumption | refine bExt ?_ _ | refine bAlloc ?_ _ | refine bDrewN ?_ _ | refine bDrew ?_ | refine bSet ?_ (by first | exact Nat.le_refl _ | omega | (simp; done) | (simp; omega)) _))
  generalize hw2 : ext (ext (ext (ext (wx.alloc (.cells #[.int .i64 b0, .int .i64 b1, .int .i64 b2, .int .i64 b3] 56)) x5) x6) x7) x8 = w2 at *
  have bx2 : Below wx.heap.size wx w2 := by rw [← hw2]; repeat (first | exact Below.refl _ _ | assumption | refine bExt ?_ _ | refine bAlloc ?_ _ | refine bDrewN ?_ _ | refine bDrew ?_ | refine bSet ?_ (by first | exact Nat.le_refl _ | omega | (simp; done) | (simp; omega)) _)
  clear hw2
  have HSL := Lib.hid (@slipR_facts mu wa al)
  have HG := Lib.hid (@gap_facts M b0 b1 b2 b3 en)
  have HD := Lib.hid (@delay_facts L d0 d1 d2 d3 i dl)
  go_cut [] (fun wz => Below wx.heap.size wx wz)
  case first => as_aux_lemma =>
    clear rA rB rC hd ha2 HSL HD cA hnb hm bx
    generalize gapV M b0 b1 b2 b3 en = G at *
    generalize gapB M b0 b1 b2 b3 en = one at *
    cases one
    · go_wp2
      go_meet
      exact bx2
    · obtain ⟨⟨h0, h3⟩, ht, he, hlt⟩ := HG.out rfl
      clear HG
      obtain ⟨⟨q0, q1, q2, q3⟩, q4, q5, q6, q7⟩ := blk4 hbb
      have hset : (w2.setCell ⟨wx.heap.size, 3, none⟩ (.int .i64 G)).heap[wx.heap.size]? = some (.cells #[.int .i64 b0, .int .i64 b1, .int .i64 b2, .int .i64 G] 56) := heap_setCell_same w2 wx.heap.size 3 _ _ (.int .i64 G) hbb
      have b4 : Below wx.heap.size wx (w2.setCell ⟨wx.heap.size, 3, none⟩ (.int .i64 G)) := bSet bx2 (Nat.le_refl _) _
      have ce := implEndTime_any (w2.setCell ⟨wx.heap.size, 3, none⟩ (.int .i64 G)) D q g M b0 b1 b2 G (rD.below b4) hqb cD.1
      rw [ht] at ce
      generalize endV M b0 b1 b2 G = E1 at ce he
      by_cases hg3 : G < 300
      · obtain ⟨ht2, he2⟩ := hlt hg3
        clear hlt
        go_upto_region 20 with ((go_at_call 44; ((with_reducible refine (ce).mono ?_); rintro e w' ⟨x9, rfl, rfl⟩)))
        have hset2 := heap_old hset (ext_below (w2.setCell ⟨wx.heap.size, 3, none⟩ (.int .i64 G)) x9)
        have b5 : Below wx.heap.size wx (ext (w2.setCell ⟨wx.heap.size, 3, none⟩ (.int .i64 G)) x9) := by repeat (first | exact Below.refl _ _ | assumption | refine bExt ?_ _ | refine bAlloc ?_ _ | refine bDrewN ?_ _ | refine bDrew ?_ | refine bSet ?_ (by first | exact Nat.le_refl _ | omega | (simp; done) | (simp; omega)) _)
        clear hset b4 ce q0 q1 q2 q3 q4 q5 q6 q7 hbb
        generalize ext (w2.setCell ⟨wx.heap.size, 3, none⟩ (.int .i64 G)) x9 = w3 at *
        obtain ⟨⟨q0, q1, q2, q3⟩, q4, q5, q6, q7⟩ := blk4 hset2
        have b6 : Below wx.heap.size wx (w3.setCell ⟨wx.heap.size, 3, none⟩ (.int .i64 (G + 1))) := bSet b5 (Nat.le_refl _) _
        have ce := implEndTime_any (w3.setCell ⟨wx.heap.size, 3, none⟩ (.int .i64 (G + 1))) D q g M b0 b1 b2 (G + 1) (rD.below b6) hqb cD.1
        rw [ht2] at ce
        generalize endV M b0 b1 b2 (G + 1) = E2 at ce he2
        go_wp2_with ((go_at_call 44; ((with_reducible refine (ce).mono ?_); rintro e w' ⟨x10, rfl, rfl⟩)))
        go_meet
        exact (by repeat (first | exact Below.refl _ _ | assumption | refine bExt ?_ _ | refine bAlloc ?_ _ | refine bDrewN ?_ _ | refine bDrew ?_ | refine bSet ?_ (by first | exact Nat.le_refl _ | omega | (simp; done) | (simp; omega)) _))
      · clear hlt
        go_wp2_with ((go_at_call 44; ((with_reducible refine (ce).mono ?_); rintro e w' ⟨x9, rfl, rfl⟩)))
        go_meet
        exact (by repeat (first | exact Below.refl _ _ | assumption | refine bExt ?_ _ | refine bAlloc ?_ _ | refine bDrewN ?_ _ | refine bDrew ?_ | refine bSet ?_ (by first | exact Nat.le_refl _ | omega | (simp; done) | (simp; omega)) _))
  case rest => as_aux_lemma =>
    clear HG hbb bx2 rD hqb cD ha2
    rename World => w3
    have bx3 := hcut
    clear hcut
    go_upto_region 24 with fail
    go_cut [207] (fun v wz => v = .bool false ∧ w3 = wz)
    case first => as_aux_lemma =>
      clear HD rA rB rC hd
      generalize slipR mu wa al = sv at *
      generalize slipOk mu wa al = three at *
      cases three
      · go_wp2
        go_meet
        exact ⟨rfl, rfl⟩
      · obtain ⟨⟨h1, h2, h3, h4, h5, h6⟩, h7, h8, h9, h10, h11, h12⟩ := HSL.out rfl
        have cq := qAbs_any (mu - wa) w3 (by omega) (by omega)
        generalize absI (mu - wa) = ab at *
        clear HSL
        by_cases hp : 0 < sv
        · have h9 := h9 hp
          clear h10
          have hne : ¬ sv = 0 := by omega
          subst h9
          go_wp2_with ((go_at_call 66; ((with_reducible refine (cq).mono ?_); rintro e w' ⟨rfl, rfl⟩)))
          go_meet
          exact ⟨rfl, rfl⟩
        · obtain rfl : sv = 0 := by omega
          have h10 := h10 rfl
          clear h9
          go_wp2_with ((go_at_call 66; ((with_reducible refine (cq).mono ?_); rintro e w' ⟨rfl, rfl⟩)))
          go_meet
          exact ⟨by rw [decide_eq_false (show ¬ al < ab by omega)], rfl⟩
    case rest => as_aux_lemma =>
      obtain ⟨rfl, rfl⟩ := hcut
      clear HSL
      generalize hok : delayOk L d0 d1 d2 d3 i dl = ok at *
      have Hok := Lib.hid hok
      clear hok
      have bw3 := bx.trans (bx3.mono bx.size)
      cases ok
      · go_wp2
        go_ret
        exact ⟨rfl, bw3⟩
      · obtain ⟨ht, ⟨hi0, hd0, hd1⟩, hS, hV, hl1, hl2, hk, hbd⟩ := HD.out rfl
        have hlA := rA.len
        rw [hV] at rB rC
        have hpn : p = n := by rw [← rC.len, hl2]; exact hlA
        have hgd := fun k (hk : k < n) => hbd _ (getD_mem 0 (runS L d0 d1 d2 d3 0 0) k (by rw [hl1, hlA]; exact hk))
        rw [hlA] at hk
        have c1 := fun W (h : Below wx.heap.size wx W) => implStartTimes_any W A n c L d0 d1 d2 d3 (rA.below h) hnb cA.1
        have c2 := fun W (h : Below wx.heap.size wx W) => specStartTimes_any W A n c L d0 d1 d2 d3 (rA.below h) hnb
        simp only [hS, ht] at c1 c2
        have hSl : (runS L d0 d1 d2 d3 0 0).length = n := by rw [hl1]; exact hlA
        clear HD Hok hS hV hl1 hl2 ht hbd hlA rB rA hm
        generalize runS L d0 d1 d2 d3 0 0 = S0 at *
        generalize runS L d0 d1 d2 d3 i dl = S1 at *
        obtain rfl : n = p := hpn.symm
        have HSl := Lib.hid hSl
        clear hSl
        have hdd := heap_old hd bx3
        obtain ⟨⟨q0, q1, q2, q3⟩, q4, q5, q6, q7⟩ := blk4 hdd
        have hp0 : p0 < w3.heap.size := (Array.getElem?_eq_some_iff.1 hdd).1
        go_wp2_with ((go_at_call 40; ((with_reducible refine (c1 _ bx3).mono ?_); rintro e w' ⟨E, r, h, x9, rfl, rfl, oE⟩)))
        have hE : r ≤ 1099511627776 := by rw [← oE.len, HSl.out]; exact hnb
        go_wp2_with ((go_at_call 41; ((with_reducible refine (c2 _ (by repeat (first | exact Below.refl _ _ | assumption | refine bExt ?_ _ | refine bAlloc ?_ _ | refine bDrewN ?_ _ | refine bDrew ?_ | refine bSet ?_ (by first | exact Nat.le_refl _ | omega | (simp; done) | (simp; omega)) _))).mono ?_); rintro e w' ⟨F, u, v, x10, rfl, rfl, oF⟩)))
        have Hu := Lib.hid (show u = n by rw [← oF.len]; exact HSl.out)
        go_wp2_with ((go_at_call 52; ((with_reducible refine (qInts_self _ _ _ _ _ _ _ _ (oE.rd.below (by repeat (first | exact Below.refl _ _ | assumption | refine bExt ?_ _ | refine bAlloc ?_ _ | refine bDrewN ?_ _ | refine bDrew ?_ | refine bSet ?_ (by first | exact Nat.le_refl _ | omega | (simp; done) | (simp; omega)) _))) (oF.rd.below (by repeat (first | exact Below.refl _ _ | assumption | refine bExt ?_ _ | refine bAlloc ?_ _ | refine bDrewN ?_ _ | refine bDrew ?_ | refine bSet ?_ (by first | exact Nat.le_refl _ | omega | (simp; done) | (simp; omega)) _))) hE).mono ?_); rintro e w' ⟨rfl, x11, rfl⟩)))
        have rF : RdI (ext (ext (ext w3 x9) x10) x11) F u S0 := oF.rd.below (by repeat (first | exact Below.refl _ _ | assumption | refine bExt ?_ _ | refine bAlloc ?_ _ | refine bDrewN ?_ _ | refine bDrew ?_ | refine bSet ?_ (by first | exact Nat.le_refl _ | omega | (simp; done) | (simp; omega)) _))
        have b9 : Below wx.heap.size wx (ext (ext (ext w3 x9) x10) x11) := by repeat (first | exact Below.refl _ _ | assumption | refine bExt ?_ _ | refine bAlloc ?_ _ | refine bDrewN ?_ _ | refine bDrew ?_ | refine bSet ?_ (by first | exact Nat.le_refl _ | omega | (simp; done) | (simp; omega)) _)
        clear c1 c2 oE oF hE q0 q1 q2 q3 q4 q5 q6 q7 hd hdd
        generalize ext (ext (ext w3 x9) x10) x11 = w9 at *
        go_loopw [35, 36, 236] (fun _ _ ix wr => ∃ k : Nat, k ≤ n ∧ ix = .int .i64 k ∧ Below wx.heap.size wx wr ∧ RdI wr F u S0) (fun _ _ ix _ => n - (intOf ix).toNat)
        case atStart => exact ⟨0, by omega, rfl, b9, rF⟩
        case round =>
          clear rF b9
          obtain ⟨k, hkn, rfl, hbl, rF⟩ := hrel
          by_cases hlt : k < n
          · obtain ⟨b1, o1, rfl, hb1, hc1⟩ := (rC.below hbl).open_ (by omega)
            obtain ⟨b2, o2, rfl, hb2, hc2⟩ := rF.open_ (by have := Hu.out; omega)
            have e1 := hc1 k hlt
            have e2 := hc2 k (by have := Hu.out; omega)
            rw [List.getD_eq_getElem?_getD] at e1 e2
            rw [hk k hlt] at e1
            have hv := hgd k hlt
            have hku : (k : Int) < u := by have := Hu.out; omega
            have hkI : (k : Int) < n := by omega
            clear hc1 hc2
            have Hk := Lib.hid hk
            have Hgd := Lib.hid hgd
            clear hk hgd
            generalize S0[k]?.getD 0 = v at *
            by_cases hki : (k : Int) ≤ i
            · rw [if_neg (by omega), Int.add_zero] at e1
              have hik : ¬ i < (k : Int) := by omega
              go_wp2
              go_roundw
              case rel => exact ⟨k + 1, by omega, by go_num, hbl, rF⟩
              case measure => simp [intOf]; omega
            · have hik : i < (k : Int) := by omega
              rw [if_pos hik] at e1
              go_wp2
              go_roundw
              case rel => exact ⟨k + 1, by omega, by go_num, hbl, rF⟩
              case measure => simp [intOf]; omega
          · go_wp2
            go_ret
            exact ⟨rfl, bx.trans (hbl.mono bx.size)⟩
set_option maxRecDepth 100000 in
theorem fnDelays_lifted (os : Os) (started : os.Started) (H : Type) (enc : TypeId × Value → H) :
    ReturnsInHanded {} Try.checked os 6 .any (Rows.fnDelaysSpec.pre6 enc Try.prog Try.f6 Rows.fnDelaysRow.domain false) (Rows.fnDelaysSpec.post enc Try.prog Try.f6 false true false false) := by
  refine returnsInHanded_of_change (C := Try.checked) ownKnobNone started (by kernel_rfl) Try.func6
    (ChangeSpec.witness6 (enc := enc) (C := Try.checked) false ⟨#[], #[.slice none 0 0, .slice none 0 0], []⟩ 8 (by kernel_rfl) (by kernel_rfl) (by kernel_rfl) (by kernel_rfl)) ?_
  intro W base args ds gs before hval0 hW hcnd _
  have hval : ∀ (j : Nat) t v, Try.f6.params[j]? = some t → args[j]? = some v → Value.okWide Try.prog W .any base t v := hval0
  have hW' := hW
  obtain ⟨p, q, hA0, hV, rfl, hfz, hnd⟩ := hW
  have hA : DataW.TrodAll enc Try.prog W 0 (fun _ => true) true Try.f6.params.toList args.toList ds p := hA0
  have hAk := hA
  rw [Try.params6] at hA hval
  obtain ⟨v0, vs0, d0, ds0, p0, q0, hargs, rfl, rfl, h0, r0⟩ := trodAll_cons hA
  obtain ⟨v1, vs1, d1, ds1, p1, q1, rfl, rfl, rfl, h1, r1⟩ := trodAll_cons r0
  obtain ⟨rfl, rfl, rfl⟩ := trodAll_nil r1
  obtain rfl : args = #[v0, v1] := by cases args; simp_all
  obtain ⟨rfl, rfl⟩ := trodVars_none hV
  obtain ⟨A0, n0, c0, l0, rfl, g0, nc0, cm0⟩ := open_RdY (hval 0 22 v0 rfl rfl) h0
  obtain ⟨A1, n1, c1, l1, rfl, g1, nc1, cm1⟩ := open_RdY (hval 1 22 v1 rfl rfl) h1
  refine (law_Delays _ _ _ _ _ g0 (by simp only [maxLen] at cm0; omega) _ _ _ _ g1 (by simp only [maxLen] at cm1; omega)).mono fun e W' hh => ?_
  obtain ⟨he, bel⟩ := hh
  subst he
  exact ⟨_, rfl, _, _, _, [], _, [], hW', trodAll_mk1 (shut_bool Try.underlying4 _), trodAll_below laidOutAll bel _ _ _ _ (by rw [tsOk, Try.params6]; kernel_rfl) hAk, rfl, bel.frame _, fun h => by cases h⟩
theorem fnDelays_holds : Rows.FnDelaysSaid :=
  OpenClaim.holds_of_wide 6 Try.f6 rfl rfl rfl rfl rfl rfl rfl ⟨rfl, rfl, rfl, rfl, rfl⟩ rfl rfl rfl rfl rfl (by kernel_rfl) Try.func6 (by kernel_rfl)
    (of_decide_eq_true (by kernel_rfl)) (by unfold Func.isWrapper; first | (rw [if_pos (by decide +kernel)]; kernel_rfl) | (rw [if_neg (by decide +kernel)]; exact ⟨rfl, rfl⟩))
    (fun os started H enc _ => fnDelays_lifted os started H enc)
end Go.Proofs.Ytppcmnolkbobfaa
