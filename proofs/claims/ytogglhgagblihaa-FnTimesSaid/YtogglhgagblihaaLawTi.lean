/- The law FnTimes returns true for every input. Conditions: none. -/
import Derived.Test.YtogglhgagblihaaDraw12
import Derived.Test.YtogglhgagblihaaTimesQ
import Derived.Test.YtogglhgagblihaaQSum
import Derived.Test.YtogglhgagblihaaLiftByte
import Derived.Test.YtogglhgagblihaaLawKit
import Derived.Deep.RegionHeld3
import Derived.Deep.DeepCutAuto
set_option linter.unusedVariables false
set_option linter.unusedSimpArgs false
set_option maxRecDepth 100000
namespace Go.Proofs.Ytogglhgagblihaa
open Go.ChangeShapes Go.WideShapes Go.ChangeAt Go.RowKit
set_option maxHeartbeats 4000000 in
theorem law_Times (w : World) (A0 : Option Addr) (n0 c0 : Nat) (l0 : List Int) (ha0 : RdY w A0 n0 l0) (hm0 : n0 ≤ 9223372036854775807) (A1 : Option Addr) (n1 c1 : Nat) (l1 : List Int) (ha1 : RdY w A1 n1 l1) (hm1 : n1 ≤ 9223372036854775807) :
    Calls Try.prog 3 #[.slice A0 n0 c0, .slice A1 n1 c1] w fun e w' => e = .returned (.bool true) ∧ Below w.heap.size w w' := by
  by_cases hs : (1048576 : Int) < wrap64 (n0 + n1)
  · go_enter Try.func3, Try.ntmps3
    go_wp2_with fail
    go_ret
    exact ⟨rfl, by repeat (first | exact Below.refl _ _ | assumption | refine bExt ?_ _ | refine bAlloc ?_ _ | refine bDrewN ?_ _ | refine bDrew ?_ | refine bSet ?_ (by first | exact Nat.le_refl _ | omega | (simp; done) | (simp; omega)) _)⟩
  have hsd : decide ((1048576 : Int) < wrap64 (n0 + n1)) = false := decide_eq_false hs
  go_enter Try.func3, Try.ntmps3
  go_wp2_with fail
  refine (drawStartTimes_any _ _ _ _ _ ha0 hm0).mono ?_
  rintro e wx ⟨A, n, c, L, d0, d1, d2, d3, x1, rfl, hn, hwx, oA⟩
  rw [← hwx] at oA
  have cA := oA.cap_
  have rA : RdS wx A n L := oA.rd
  have bx : Below w.heap.size w wx := by rw [hwx]; repeat (first | exact Below.refl _ _ | assumption | refine bExt ?_ _ | refine bAlloc ?_ _ | refine bDrewN ?_ _ | refine bDrew ?_ | refine bSet ?_ (by first | exact Nat.le_refl _ | omega | (simp; done) | (simp; omega)) _)
  have hnb : n ≤ 1099511627776 := by omega
  have ha2 : RdY wx A1 n1 l1 := ha1.below bx
  clear hwx oA ha0 ha1 hs hsd
  go_wp2_with fail
  have hdd := heap_alloc_new wx (.cells #[.int .i64 d0, .int .i64 d1, .int .i64 d2, .int .i64 d3] 25)
  refine (implStartTimes_any _ _ _ _ L d0 d1 d2 d3 (rA.below (by repeat (first | exact Below.refl _ _ | assumption | refine bExt ?_ _ | refine bAlloc ?_ _ | refine bDrewN ?_ _ | refine bDrew ?_ | refine bSet ?_ (by first | exact Nat.le_refl _ | omega | (simp; done) | (simp; omega)) _))) hnb cA.1).mono ?_
  rintro e w1 ⟨B, m, d, x2, rfl, rfl, oB⟩
  go_wp2_with fail
  refine (specStartTimes_any _ _ _ _ L d0 d1 d2 d3 (rA.below (by repeat (first | exact Below.refl _ _ | assumption | refine bExt ?_ _ | refine bAlloc ?_ _ | refine bDrewN ?_ _ | refine bDrew ?_ | refine bSet ?_ (by first | exact Nat.le_refl _ | omega | (simp; done) | (simp; omega)) _))) hnb).mono ?_
  rintro e w1 ⟨C, p, f, x3, rfl, rfl, oC⟩
  go_wp2_with fail
  refine (implWarmUpTimes_any _ _ _ _ L d0 d1 d2 d3 (rA.below (by repeat (first | exact Below.refl _ _ | assumption | refine bExt ?_ _ | refine bAlloc ?_ _ | refine bDrewN ?_ _ | refine bDrew ?_ | refine bSet ?_ (by first | exact Nat.le_refl _ | omega | (simp; done) | (simp; omega)) _))) hnb cA.1).mono ?_
  rintro e w1 ⟨D, q, g, x4, rfl, rfl, oD⟩
  go_wp2_with fail
  refine (specWarmUpTimes_any _ _ _ _ L d0 d1 d2 d3 (rA.below (by repeat (first | exact Below.refl _ _ | assumption | refine bExt ?_ _ | refine bAlloc ?_ _ | refine bDrewN ?_ _ | refine bDrew ?_ | refine bSet ?_ (by first | exact Nat.le_refl _ | omega | (simp; done) | (simp; omega)) _))) hnb).mono ?_
  rintro e w1 ⟨E, r, h, x5, rfl, rfl, oE⟩
  go_wp2_with fail
  refine (implEndTime_any _ _ _ _ L d0 d1 d2 d3 (rA.below (by repeat (first | exact Below.refl _ _ | assumption | refine bExt ?_ _ | refine bAlloc ?_ _ | refine bDrewN ?_ _ | refine bDrew ?_ | refine bSet ?_ (by first | exact Nat.le_refl _ | omega | (simp; done) | (simp; omega)) _))) hnb cA.1).mono ?_
  rintro e w1 ⟨x6, rfl, rfl⟩
  go_wp2_with fail
  refine (specEndTime_any _ _ _ _ L d0 d1 d2 d3 (rA.below (by repeat (first | exact Below.refl _ _ | assumption | refine bExt ?_ _ | refine bAlloc ?_ _ | refine bDrewN ?_ _ | refine bDrew ?_ | refine bSet ?_ (by first | exact Nat.le_refl _ | omega | (simp; done) | (simp; omega)) _))) hnb).mono ?_
  rintro e w1 ⟨x7, rfl, rfl⟩
  go_wp2_with fail
  refine (drawOnIce_any _ _ _ _ _ (ha2.below (by repeat (first | exact Below.refl _ _ | assumption | refine bExt ?_ _ | refine bAlloc ?_ _ | refine bDrewN ?_ _ | refine bDrew ?_ | refine bSet ?_ (by first | exact Nat.le_refl _ | omega | (simp; done) | (simp; omega)) _))) hm1).mono ?_
  rintro e wy ⟨F, u, v, M, b0, b1, b2, b3, t, x8, rfl, hu, hwy, oF⟩
  rw [← hwy] at oF
  have cF := oF.cap_
  have rF : RdS wy F u M := oF.rd
  have hub : u ≤ 1099511627776 := by omega
  have bxy : Below wx.heap.size wx wy := by rw [hwy]; repeat (first | exact Below.refl _ _ | assumption | refine bExt ?_ _ | refine bAlloc ?_ _ | refine bDrewN ?_ _ | refine bDrew ?_ | refine bSet ?_ (by first | exact Nat.le_refl _ | omega | (simp; done) | (simp; omega)) _)
  have rB : RdI wy B m (startsV L d0 d1 d2 d3) := oB.rd.below (by rw [hwy]; repeat (first | exact Below.refl _ _ | assumption | refine bExt ?_ _ | refine bAlloc ?_ _ | refine bDrewN ?_ _ | refine bDrew ?_ | refine bSet ?_ (by first | exact Nat.le_refl _ | omega | (simp; done) | (simp; omega)) _))
  have rC : RdI wy C p (startsV L d0 d1 d2 d3) := oC.rd.below (by rw [hwy]; repeat (first | exact Below.refl _ _ | assumption | refine bExt ?_ _ | refine bAlloc ?_ _ | refine bDrewN ?_ _ | refine bDrew ?_ | refine bSet ?_ (by first | exact Nat.le_refl _ | omega | (simp; done) | (simp; omega)) _))
  have rD : RdI wy D q (warmsV L d0 d1 d2 d3) := oD.rd.below (by rw [hwy]; repeat (first | exact Below.refl _ _ | assumption | refine bExt ?_ _ | refine bAlloc ?_ _ | refine bDrewN ?_ _ | refine bDrew ?_ | refine bSet ?_ (by first | exact Nat.le_refl _ | omega | (simp; done) | (simp; omega)) _))
  have rE : RdI wy E r (warmsV L d0 d1 d2 d3) := oE.rd.below (by rw [hwy]; repeat (first | exact Below.refl _ _ | assumption | refine bExt ?_ _ | refine bAlloc ?_ _ | refine bDrewN ?_ _ | refine bDrew ?_ | refine bSet ?_ (by first | exact Nat.le_refl _ | omega | (simp; done) | (simp; omega)) _))
  have hdy : wy.heap[wx.heap.size]? = some (.cells #[.int .i64 d0, .int .i64 d1, .int .i64 d2, .int .i64 d3] 25) := heap_old hdd (by rw [hwy]; repeat (first | exact Below.refl _ _ | assumption | refine bExt ?_ _ | refine bAlloc ?_ _ | refine bDrewN ?_ _ | refine bDrew ?_ | refine bSet ?_ (by first | exact Nat.le_refl _ | omega | (simp; done) | (simp; omega)) _))
  have by_ : Below w.heap.size w wy := bx.trans (bxy.mono bx.size)
  have rA' : RdS wy A n L := rA.below bxy
  have ha3 : RdY wy A1 n1 l1 := ha2.below bxy
  have hm : m ≤ 1099511627776 := by rw [← rB.len]; exact Nat.le_trans (startsV_len _ _ _ _ _) (by omega)
  have hq : q ≤ 1099511627776 := by rw [← rD.len]; exact Nat.le_trans (warmsV_len _ _ _ _ _) (by omega)
  clear hwy oB oC oD oE oF hdd ha2 rA bxy bx
  generalize wx.heap.size = p0 at *
  go_wp2_with fail
  have hbb := heap_alloc_new wy (.cells #[.int .i64 b0, .int .i64 b1, .int .i64 b2, .int .i64 b3] 25)
  refine (implOnIce_any _ _ _ _ M b0 b1 b2 b3 t (rF.below (by repeat (first | exact Below.refl _ _ | assumption | refine bExt ?_ _ | refine bAlloc ?_ _ | refine bDrewN ?_ _ | refine bDrew ?_ | refine bSet ?_ (by first | exact Nat.le_refl _ | omega | (simp; done) | (simp; omega)) _))) hub cF.1).mono ?_
  rintro e w1 ⟨x9, rfl, rfl⟩
  go_wp2_with fail
  refine (specOnIce_any _ _ _ _ M b0 b1 b2 b3 t (rF.below (by repeat (first | exact Below.refl _ _ | assumption | refine bExt ?_ _ | refine bAlloc ?_ _ | refine bDrewN ?_ _ | refine bDrew ?_ | refine bSet ?_ (by first | exact Nat.le_refl _ | omega | (simp; done) | (simp; omega)) _))) hub).mono ?_
  rintro e w1 ⟨x10, rfl, rfl⟩
  go_wp2_with fail
  refine (drawWarmUpGroups_any _ _ _ _ _ (ha3.below (by repeat (first | exact Below.refl _ _ | assumption | refine bExt ?_ _ | refine bAlloc ?_ _ | refine bDrewN ?_ _ | refine bDrew ?_ | refine bSet ?_ (by first | exact Nat.le_refl _ | omega | (simp; done) | (simp; omega)) _))) hm1).mono ?_
  rintro e w1 ⟨gn, gz, x11, rfl, rfl⟩
  go_wp2_with fail
  refine (implWarmUpGroups_any _ gn gz).mono ?_
  rintro e w1 ⟨G, y, z, x12, rfl, rfl, oG⟩
  go_wp2_with fail
  refine (specWarmUpGroups_any _ gn gz).mono ?_
  rintro e w1 ⟨H, k, j, x13, rfl, rfl, oH⟩
  have hy : y ≤ 1099511627776 := by rw [← oG.len]; exact Nat.le_trans (groupsV_len _ _) (by omega)
  go_upto_region 16 with fail
  generalize hw1 : ext (ext (ext (ext (ext (wy.alloc (.cells #[.int .i64 b0, .int .i64 b1, .int .i64 b2, .int .i64 b3] 25)) x9) x10) x11) x12) x13 = w1 at *
  have bW : Below wy.heap.size wy w1 := by rw [← hw1]; repeat (first | exact Below.refl _ _ | assumption | refine bExt ?_ _ | refine bAlloc ?_ _ | refine bDrewN ?_ _ | refine bDrew ?_ | refine bSet ?_ (by first | exact Nat.le_refl _ | omega | (simp; done) | (simp; omega)) _)
  have hbw : w1.heap[wy.heap.size]? = some (.cells #[.int .i64 b0, .int .i64 b1, .int .i64 b2, .int .i64 b3] 25) := heap_old hbb (by rw [← hw1]; repeat (first | exact Below.refl _ _ | assumption | refine bExt ?_ _ | refine bAlloc ?_ _ | refine bDrewN ?_ _ | refine bDrew ?_ | refine bSet ?_ (by first | exact Nat.le_refl _ | omega | (simp; done) | (simp; omega)) _))
  have rG : RdI w1 G y (groupsV gn gz) := oG.rd.below (by rw [← hw1]; repeat (first | exact Below.refl _ _ | assumption | refine bExt ?_ _ | refine bAlloc ?_ _ | refine bDrewN ?_ _ | refine bDrew ?_ | refine bSet ?_ (by first | exact Nat.le_refl _ | omega | (simp; done) | (simp; omega)) _))
  have rH : RdI w1 H k (groupsV gn gz) := oH.rd
  have hdw := heap_old hdy bW
  clear hw1 oG oH hbb ha3 hdy
  go_cut [206] (fun v wz => v = .bool false ∧ Below w1.heap.size w1 wz)
  case first =>
    exact Nonempty.elim (α := type_of% ?k1) (letI i : Nonempty (type_of% ?k1) := ⟨by
      obtain ⟨⟨q0, q1, q2, q3⟩, q4, q5, q6, q7⟩ := blk4 hdw
      have hp0 : p0 < w1.heap.size := (Array.getElem?_eq_some_iff.1 hdw).1
      have rA1 := rA'.below bW
      have rB1 := rB.below bW
      have rC1 := rC.below bW
      have rD1 := rD.below bW
      have rE1 := rE.below bW
      clear rA' rB rC rD rE bW hdw hbw rF by_ cF
      simp only [List.append_eq, List.cons_append, List.nil_append]
      go_region_held3 (fun w' => w'.cell? ⟨p0, 0, none⟩ = some (.int .i64 d0) ∧ w'.cell? ⟨p0, 1, none⟩ = some (.int .i64 d1) ∧ w'.cell? ⟨p0, 2, none⟩ = some (.int .i64 d2) ∧ w'.cell? ⟨p0, 3, none⟩ = some (.int .i64 d3)) (refine ⟨?_, ?_, ?_, ?_⟩ <;> first | assumption | simp [*, go_sem]) (first | (go_at_call 19; ((with_reducible refine (qInts_self _ _ _ _ _ _ _ _ (rB1.below (by repeat (first | exact Below.refl _ _ | assumption | refine bExt ?_ _ | refine bAlloc ?_ _ | refine bDrewN ?_ _ | refine bDrew ?_ | refine bSet ?_ (by first | exact Nat.le_refl _ | omega | (simp; done) | (simp; omega)) _))) (rC1.below (by repeat (first | exact Below.refl _ _ | assumption | refine bExt ?_ _ | refine bAlloc ?_ _ | refine bDrewN ?_ _ | refine bDrew ?_ | refine bSet ?_ (by first | exact Nat.le_refl _ | omega | (simp; done) | (simp; omega)) _))) hm).mono ?_); rintro e w' ⟨rfl, x14, rfl⟩)) | (go_at_call 19; ((with_reducible refine (qInts_self _ _ _ _ _ _ _ _ (rD1.below (by repeat (first | exact Below.refl _ _ | assumption | refine bExt ?_ _ | refine bAlloc ?_ _ | refine bDrewN ?_ _ | refine bDrew ?_ | refine bSet ?_ (by first | exact Nat.le_refl _ | omega | (simp; done) | (simp; omega)) _))) (rE1.below (by repeat (first | exact Below.refl _ _ | assumption | refine bExt ?_ _ | refine bAlloc ?_ _ | refine bDrewN ?_ _ | refine bDrew ?_ | refine bSet ?_ (by first | exact Nat.le_refl _ | omega | (simp; done) | (simp; omega)) _))) hq).mono ?_); rintro e w' ⟨rfl, x15, rfl⟩)) | (go_at_call 19; ((with_reducible refine (qInts_self _ _ _ _ _ _ _ _ (rG.below (by repeat (first | exact Below.refl _ _ | assumption | refine bExt ?_ _ | refine bAlloc ?_ _ | refine bDrewN ?_ _ | refine bDrew ?_ | refine bSet ?_ (by first | exact Nat.le_refl _ | omega | (simp; done) | (simp; omega)) _))) (rH.below (by repeat (first | exact Below.refl _ _ | assumption | refine bExt ?_ _ | refine bAlloc ?_ _ | refine bDrewN ?_ _ | refine bDrew ?_ | refine bSet ?_ (by first | exact Nat.le_refl _ | omega | (simp; done) | (simp; omega)) _))) hy).mono ?_); rintro e w' ⟨rfl, x16, rfl⟩)) | (go_at_call 20; ((with_reducible refine (implAreSlots_any _ _ _ _ _ (rA1.below (by repeat (first | exact Below.refl _ _ | assumption | refine bExt ?_ _ | refine bAlloc ?_ _ | refine bDrewN ?_ _ | refine bDrew ?_ | refine bSet ?_ (by first | exact Nat.le_refl _ | omega | (simp; done) | (simp; omega)) _))) hnb cA.1).mono ?_); rintro e w' ⟨rfl, x17, rfl⟩)) | (go_at_call 21; ((with_reducible refine (specAreSlots_any _ _ _ _ _ (rA1.below (by repeat (first | exact Below.refl _ _ | assumption | refine bExt ?_ _ | refine bAlloc ?_ _ | refine bDrewN ?_ _ | refine bDrew ?_ | refine bSet ?_ (by first | exact Nat.le_refl _ | omega | (simp; done) | (simp; omega)) _))) hnb).mono ?_); rintro e w' ⟨rfl, x18, rfl⟩)) | (go_at_call 22; ((with_reducible refine (implIsDay_any _ _ _ _ _).mono ?_); rintro e w' ⟨rfl, x19, rfl⟩)) | (go_at_call 23; ((with_reducible refine (specIsDay_any _ _ _ _ _).mono ?_); rintro e w' ⟨rfl, x20, rfl⟩)))
      go_wp2
      go_meet
      exact ⟨rfl, by repeat (first | exact Below.refl _ _ | assumption | refine bExt ?_ _ | refine bAlloc ?_ _ | refine bDrewN ?_ _ | refine bDrew ?_ | refine bSet ?_ (by first | exact Nat.le_refl _ | omega | (simp; done) | (simp; omega)) _)⟩
      ⟩; by exact inferInstanceAs (Nonempty _)) (fun h => h)
  case rest =>
    exact Nonempty.elim (α := type_of% ?k8) (letI i : Nonempty (type_of% ?k8) := ⟨by
      obtain ⟨rfl, bz⟩ := hcut
      rename World => wz
      have bW2 := bW.trans (bz.mono bW.size)
      have BY : Below w.heap.size w wz := by_.trans (bW2.mono by_.size)
      have rA := rA'.below bW2
      have rC2 := rC.below bW2
      have rE2 := rE.below bW2
      have rF2 := rF.below bW2
      have rH2 := rH.below bz
      have hdz := heap_old hdw bz
      have hbz := heap_old hbw bz
      clear rA' rB rC rD rE rF rG rH hdw hbw bz bW bW2 by_ hm hq hy
      generalize wy.heap.size = p2 at *
      have HI := Lib.hid (@ice_facts M b0 b1 b2 b3 t)
      go_upto_if 207 with fail
      go_cut [] (fun wq => Below wz.heap.size wz wq)
      case first =>
        exact Nonempty.elim (α := type_of% ?k2) (letI i : Nonempty (type_of% ?k2) := ⟨by
          clear rA rC2 rE2 rH2 hdz BY cA hnb
          generalize iceV M b0 b1 b2 b3 t = iv at *
          generalize iceB M b0 b1 b2 b3 t = five at *
          cases five
          · go_wp2
            go_meet
            exact Below.refl _ _
          · obtain ⟨j0, hj, hjM, ht, hS, hSl, h1, h2, h3, h4, h5, h6⟩ := HI.out rfl
            clear HI
            subst hj
            obtain ⟨⟨q0, q1, q2, q3⟩, q4, q5, q6, q7⟩ := blk4 hbz
            have hp2 : p2 < wz.heap.size := (Array.getElem?_eq_some_iff.1 hbz).1
            have hlM := rF2.len
            have e1 := fun W (h : Below wz.heap.size wz W) => implStartTimes_any W F u v M b0 b1 b2 b3 (rF2.below h) hub cF.1
            have e2 := fun W (h : Below wz.heap.size wz W) => specStartTimes_any W F u v M b0 b1 b2 b3 (rF2.below h) hub
            simp only [hS, ht] at e1 e2
            rw [hlM] at hSl hjM
            obtain ⟨bF, oF, rfl, hbF, hF0, hF1⟩ := rF2.at_ j0 hjM
            clear hS ht hlM
            generalize runS M b0 b1 b2 b3 0 0 = S0 at *
            generalize (M[j0]?.getD (0, 0)).2 = m0 at *
            have HSl := Lib.hid hSl
            clear hSl
            go_wp2_with ((go_at_call 7; ((with_reducible refine (e1 _ (Below.refl _ _)).mono ?_); rintro e w' ⟨X, xn, xc, y1, rfl, rfl, oX⟩)))
            have hX : xn ≤ 1099511627776 := by rw [← oX.len, HSl.out]; exact hub
            go_upto_region 21 with ((go_at_call 8; ((with_reducible refine (e2 _ (ext_below _ _)).mono ?_); rintro e w' ⟨Y, yn, yc, y2, rfl, rfl, oY⟩)))
            clear e1 e2 hbz
            have hyn : j0 < yn := by rw [← oY.len, HSl.out]; exact hjM
            have rX := oX.rd.below (ext_below _ y2)
            obtain ⟨bY, rfl, hY1, hY2⟩ := oY.form_ (by omega)
            have hcY := oY.cell_ j0 hyn
            have rY := oY.rd
            have hFz : (ext (ext wz y1) y2).cell? ⟨bF, oF + j0 * 2 + 1, none⟩ = some (.int .i64 m0) := ((ext_below (ext wz y1) y2).cell (p := ⟨bF, oF + j0 * 2 + 1, none⟩) (Nat.lt_of_lt_of_le hbF (ext_le _ _))).trans (((ext_below wz y1).cell (p := ⟨bF, oF + j0 * 2 + 1, none⟩) hbF).trans hF1)
            have hbF2 : bF < (ext (ext wz y1) y2).heap.size := Nat.lt_of_lt_of_le (Nat.lt_of_lt_of_le hbF (ext_le _ _)) (ext_le _ _)
            have bq : Below wz.heap.size wz (ext (ext wz y1) y2) := by repeat (first | exact Below.refl _ _ | assumption | refine bExt ?_ _ | refine bAlloc ?_ _ | refine bDrewN ?_ _ | refine bDrew ?_ | refine bSet ?_ (by first | exact Nat.le_refl _ | omega | (simp; done) | (simp; omega)) _)
            generalize S0[j0]?.getD 0 = s0 at *
            clear oX oY hF0 hF1 q0 q1 q2 q3 q4 q5 q6 q7 hbF rF2
            generalize ext (ext wz y1) y2 = wv at *
            have hjy : (j0 : Int) < yn := by omega
            have hju : (j0 : Int) < u := by omega
            have hd1 : decide (t < s0) = false := decide_eq_false (by omega)
            have hd2 : decide (s0 + m0 ≤ t) = false := decide_eq_false (by omega)
            have hwr : IntKind.i64.wrap (s0 + m0) = s0 + m0 := IntWalk.i64_in _ (by omega)
            go_big_quiet ((go_at_call 19; exact qIntsQ_left rX rY hX))
            go_wp2
            go_meet
            exact (by repeat (first | exact Below.refl _ _ | assumption | refine bExt ?_ _ | refine bAlloc ?_ _ | refine bDrewN ?_ _ | refine bDrew ?_ | refine bSet ?_ (by first | exact Nat.le_refl _ | omega | (simp; done) | (simp; omega)) _))
          ⟩; by exact inferInstanceAs (Nonempty _)) (fun h => h)
      case rest =>
        exact Nonempty.elim (α := type_of% ?k7) (letI i : Nonempty (type_of% ?k7) := ⟨by
          clear HI rF2 cF hub hbz
          have bz3 := hcut
          clear hcut
          rename World => w3
          have HGf := Lib.hid (@group_facts gn gz)
          go_upto_if 254 with fail
          go_cut [] (fun wq => wq = w3)
          case first =>
            exact Nonempty.elim (α := type_of% ?k3) (letI i : Nonempty (type_of% ?k3) := ⟨by
              clear rA rC2 rE2 hdz cA hnb
              have rH3 := rH2.below bz3
              generalize hsv : groupsOk gn gz = seven at *
              have Hsv := Lib.hid hsv
              clear hsv
              cases seven
              · go_wp2
                go_meet
                exact rfl
              · obtain ⟨hV, hlen, ⟨hn1, hn2, hz1, hz2⟩, hl1, hl2, hsum, hel, hst⟩ := HGf.out rfl
                clear HGf Hsv rH2
                have hlH := rH3.len
                rw [hV] at rH3 hlH
                have hmem : ∀ x ∈ groupsOf gn gz, -100000 ≤ x ∧ x ≤ 100000 := fun x hx => by
                  obtain ⟨i, hi, rfl⟩ := List.mem_iff_getElem.1 hx
                  have := hel i hi
                  rw [List.getElem?_eq_getElem hi, Option.getD_some] at this
                  omega
                have hsum' : sumTo (groupsOf gn gz) k = gn := by rw [← hlH]; exact hsum
                have cq := qSum_any w3 H k j (groupsOf gn gz) rH3 (by omega) hmem
                rw [hsum'] at cq
                rw [hlH] at hlen hl1 hl2 hel hst
                clear hV hsum hsum' hmem hlH
                generalize groupsOf gn gz = G0 at *
                have hquo : (gn + gz - 1) / gz = k := hlen.symm
                have Hquo := Lib.hid hquo
                clear hlen hquo
                go_wp2_with fail
                go_loop [36, 37, 257] (fun _ _ ix => ∃ kk : Nat, kk ≤ k ∧ ix = .int .i64 kk) (fun _ _ ix => k - (intOf ix).toNat)
                case atStart => exact ⟨0, by omega, rfl⟩
                case round =>
                  obtain ⟨kk, hkk, rfl⟩ := hrel
                  by_cases hlt : kk < k
                  · obtain ⟨bH, oH, rfl, hbH, hcH⟩ := rH3.open_ (by omega)
                    have hc0 := hcH 0 (by omega)
                    have hck := hcH kk hlt
                    have hek := hel kk hlt
                    rw [List.getD_eq_getElem?_getD] at hc0 hck
                    rw [Nat.add_zero] at hc0
                    have e0 := hel 0 (by omega)
                    generalize hx0 : G0[0]?.getD 0 = x0 at *
                    have hkI : (kk : Int) < k := by omega
                    by_cases hk0 : kk = 0
                    · subst hk0
                      have hk00 : ¬ (0 : Int) < ((0 : Nat) : Int) := by omega
                      rw [hx0] at hck hek
                      clear hcH hel hst hx0
                      go_wp2
                      all_goals
                        go_round
                        case rel => exact ⟨0 + 1, by omega, by go_num⟩
                        case measure => simp [intOf]; omega
                    · obtain ⟨jj, hjj⟩ : ∃ jj, kk = jj + 1 := ⟨kk - 1, by omega⟩
                      have hcj := hcH jj (by omega)
                      rw [List.getD_eq_getElem?_getD] at hcj
                      have hsj := hst jj (by omega)
                      rw [← hjj] at hsj
                      have hI : (kk : Int) - 1 = jj := by omega
                      have hkp : (0 : Int) < kk := by omega
                      have hjk : (jj : Int) < k := by omega
                      clear hcH hel hst hx0 hjj
                      generalize G0[kk]?.getD 0 = x at *
                      generalize G0[jj]?.getD 0 = xj at *
                      go_wp2
                      all_goals
                        go_round
                        case rel => exact ⟨kk + 1, by omega, by go_num⟩
                        case measure => simp [intOf]; omega
                  · have hzn : ¬ gz = 0 := by omega
                    have hquo := Hquo.out
                    go_wp2_with ((go_at_call 24; ((with_reducible refine (cq).mono ?_); rintro e w' ⟨rfl, rfl⟩)))
                    go_meet
                    exact rfl
              ⟩; by exact inferInstanceAs (Nonempty _)) (fun h => h)
          case rest =>
            exact Nonempty.elim (α := type_of% ?k6) (letI i : Nonempty (type_of% ?k6) := ⟨by
              have hcut := hcut.symm
              subst hcut
              clear HGf rH2
              have HDf := Lib.hid (@day_facts L d0 d1 d2 d3)
              have BY3 := BY.trans (bz3.mono BY.size)
              generalize hok : timedB L d0 d1 d2 d3 = ok at *
              have Hok := Lib.hid hok
              clear hok
              cases ok
              · go_wp2
                go_ret
                exact ⟨rfl, BY3⟩
              · obtain ⟨G2, S, W, hG, hS, hW, hgk, hSl, hWl, hW0, ⟨hn1, hn2⟩, ⟨hg1, hg2⟩, hgrp, hstep, hSb, hend, hmus, hmm, ha, hb, hc, hgap⟩ := HDf.out rfl
                clear HDf Hok
                have hlA := rA.len
                rw [hlA] at hG hgk hSl hn1 hn2 hgrp hstep hSb hend hmus hmm
                rw [hS] at rC2
                rw [hW] at rE2
                have hpl : p = n := by rw [← rC2.len]; exact hSl
                have hrl : r = G2.length := by rw [← rE2.len]; exact hWl
                clear hS hW hlA hSl hWl
                generalize hgl : G2.length = gl at *
                have c1 := fun W => implWarmUpGroups_any W (n : Int) d1
                have c2 := fun W => specWarmUpGroups_any W (n : Int) d1
                have hGV : groupsV (n : Int) d1 = G2 := by rw [(group_facts hgk).1]; exact hG
                simp only [hGV, hgk] at c1 c2
                clear hG hgk hGV
                obtain rfl : n = p := hpl.symm
                obtain rfl : gl = r := hrl.symm
                have Hgl := Lib.hid hgl
                clear hgl
                have rA3 := rA.below bz3
                have rC3 := rC2.below bz3
                have rE3 := rE2.below bz3
                have hd3 := heap_old hdz bz3
                obtain ⟨⟨q0, q1, q2, q3⟩, q4, q5, q6, q7⟩ := blk4 hd3
                have hp0 : p0 < w3.heap.size := (Array.getElem?_eq_some_iff.1 hd3).1
                have He := Lib.hid hend
                clear rA rC2 rE2 bz3 BY hdz hd3 hend
                generalize endV L d0 d1 d2 d3 = en at *
                go_wp2_with ((go_at_call 17; ((with_reducible refine (c1 _).mono ?_); rintro e w' ⟨X, xn, xc, y1, rfl, rfl, oX⟩)))
                have hX : xn ≤ 1099511627776 := by rw [← oX.len, Hgl.out]; omega
                go_upto_region 36 with ((go_at_call 18; ((with_reducible refine (c2 _).mono ?_); rintro e w' ⟨Y, yn, yc, y2, rfl, rfl, oY⟩)))
                have hYn : yn = gl := by rw [← oY.len]; exact Hgl.out
                obtain rfl : yn = gl := hYn
                obtain ⟨bE, oE, rfl, hbE, hcE⟩ := rE3.open_ (by omega)
                have hE0 := hcE 0 (by omega)
                rw [List.getD_eq_getElem?_getD, hW0, Nat.add_zero] at hE0
                have rX := oX.rd.below (ext_below _ y2)
                have rY := oY.rd
                have bq : Below w3.heap.size w3 (ext (ext w3 y1) y2) := by repeat (first | exact Below.refl _ _ | assumption | refine bExt ?_ _ | refine bAlloc ?_ _ | refine bDrewN ?_ _ | refine bDrew ?_ | refine bSet ?_ (by first | exact Nat.le_refl _ | omega | (simp; done) | (simp; omega)) _)
                have k0 : (ext (ext w3 y1) y2).cell? ⟨p0, 0, none⟩ = some (.int .i64 d0) := (bq.cell (p := ⟨p0, 0, none⟩) hp0).trans q0
                have k1 : (ext (ext w3 y1) y2).cell? ⟨p0, 1, none⟩ = some (.int .i64 d1) := (bq.cell (p := ⟨p0, 1, none⟩) hp0).trans q1
                have k2 : (ext (ext w3 y1) y2).cell? ⟨p0, 2, none⟩ = some (.int .i64 d2) := (bq.cell (p := ⟨p0, 2, none⟩) hp0).trans q2
                have k3 : (ext (ext w3 y1) y2).cell? ⟨p0, 3, none⟩ = some (.int .i64 d3) := (bq.cell (p := ⟨p0, 3, none⟩) hp0).trans q3
                have kE : (ext (ext w3 y1) y2).cell? ⟨bE, oE, none⟩ = some (.int .i64 d0) := (bq.cell (p := ⟨bE, oE, none⟩) hbE).trans hE0
                have hp5 : p0 < (ext (ext w3 y1) y2).heap.size := Nat.lt_of_lt_of_le hp0 bq.size
                have hb5 : bE < (ext (ext w3 y1) y2).heap.size := Nat.lt_of_lt_of_le hbE bq.size
                have rA5 := rA3.below bq
                have rC5 := rC3.below bq
                have rE5 := rE3.below bq
                have BY5 := BY3.trans (bq.mono BY3.size)
                clear q0 q1 q2 q3 q4 q5 q6 q7 hE0 hcE hbE hp0 oX oY rA3 rC3 rE3 bq BY3 c1 c2
                generalize ext (ext w3 y1) y2 = w5 at *
                have hg0 : (0 : Int) < yn := by omega
                go_cut [350] (fun v wq => v = .bool false ∧ Below w5.heap.size w5 wq)
                case first =>
                  exact Nonempty.elim (α := type_of% ?k4) (letI i : Nonempty (type_of% ?k4) := ⟨by
                    clear hgrp hstep hSb hmus hmm rA5 rC5 rE5
                    go_big_quiet ((go_at_call 19; exact qIntsQ_left rX rY hX))
                    go_wp2
                    go_meet
                    exact ⟨rfl, by repeat (first | exact Below.refl _ _ | assumption | refine bExt ?_ _ | refine bAlloc ?_ _ | refine bDrewN ?_ _ | refine bDrew ?_ | refine bSet ?_ (by first | exact Nat.le_refl _ | omega | (simp; done) | (simp; omega)) _)⟩
                    ⟩; by exact inferInstanceAs (Nonempty _)) (fun h => h)
                case rest =>
                  exact Nonempty.elim (α := type_of% ?k5) (letI i : Nonempty (type_of% ?k5) := ⟨by
                    obtain ⟨rfl, hcb⟩ := hcut
                    clear rX hX kE hb5
                    have k0' := (hcb.cell (p := ⟨p0, 0, none⟩) hp5).trans k0
                    have k2' := (hcb.cell (p := ⟨p0, 2, none⟩) hp5).trans k2
                    have k3' := (hcb.cell (p := ⟨p0, 3, none⟩) hp5).trans k3
                    have hp6 := Nat.lt_of_lt_of_le hp5 hcb.size
                    have rA6 := rA5.below hcb
                    have rC6 := rC5.below hcb
                    have rE6 := rE5.below hcb
                    have rY6 := rY.below hcb
                    have BY6 := BY5.trans (hcb.mono BY5.size)
                    clear k0 k1 k2 k3 hp5 rA5 rC5 rE5 rY hcb BY5
                    rename World => w6
                    go_wp2_with fail
                    go_loopw [43, 44, 45, 353] (fun kv _ _ ix wr => ∃ jj : Nat, jj ≤ yn ∧ ix = .int .i64 jj ∧ kv = .int .i64 (outK G2 jj : Nat) ∧ Below w6.heap.size w6 wr) (fun _ _ _ ix _ => yn - (intOf ix).toNat)
                    case atStart => exact ⟨0, by omega, rfl, by simp [outK], Below.refl _ _⟩
                    case round =>
                      obtain ⟨jj, hjj, rfl, rfl, hbl⟩ := hrel
                      by_cases hlt : jj < yn
                      · obtain ⟨g1, g2, g3, g4, g5, g6, g7⟩ := hgrp jj (by first | exact hlt | (rw [Hgl.out]; exact hlt))
                        obtain ⟨bY, oY, rfl, hbY, hcY⟩ := (rY6.below hbl).open_ (by omega)
                        have hck := hcY jj hlt
                        obtain ⟨bC, oC, rfl, hbC, hcC⟩ := (rC6.below hbl).open_ (by omega)
                        have hcs := hcC (outK G2 jj) g1
                        obtain ⟨bE', oE', hbe, hbE, hcE⟩ := (rE6.below hbl).open_ (by omega)
                        injection hbe with hbe
                        injection hbe with hbe1 hbe2
                        subst hbe1 hbe2
                        have hce := hcE jj hlt
                        rw [List.getD_eq_getElem?_getD] at hck hcs hce
                        rw [g5] at hcs
                        have k2q := (hbl.cell (p := ⟨p0, 2, none⟩) hp6).trans k2'
                        have hp7 := Nat.lt_of_lt_of_le hp6 hbl.size
                        have Hg2 := Lib.hid g2
                        clear hgrp hstep hSb hmus hmm hcY hcC hcE g2 g5
                        generalize outK G2 jj = ka at *
                        generalize W[jj]?.getD 0 = wj at *
                        generalize G2[jj]?.getD 0 = xj at *
                        have hkn : (ka : Int) < n := by omega
                        have hjI : (jj : Int) < yn := by omega
                        have hwr : IntKind.i64.wrap (wj + d2) = wj + d2 := IntWalk.i64_in _ (by omega)
                        go_wp2
                        go_big_quiet (fail)
                        go_wp2
                        go_roundw
                        case rel => exact ⟨jj + 1, by omega, by go_num, congrArg (Value.int .i64) (by have := Hg2.out; omega), by repeat (first | exact Below.refl _ _ | assumption | refine bExt ?_ _ | refine bAlloc ?_ _ | refine bDrewN ?_ _ | refine bDrew ?_ | refine bSet ?_ (by first | exact Nat.le_refl _ | omega | (simp; done) | (simp; omega)) _)⟩
                        case measure => simp [intOf]; omega
                      · clear hgrp rE6 rY6
                        go_wp2_with fail
                        go_loopw [42, 46, 47, 376] (fun mv _ _ ix wq => ∃ kk : Nat, kk ≤ n ∧ ix = .int .i64 kk ∧ mv = .int .i64 (musTo L kk) ∧ Below w6.heap.size w6 wq) (fun _ _ _ ix _ => n - (intOf ix).toNat)
                        case atStart => exact ⟨0, by omega, rfl, rfl, hbl⟩
                        case round =>
                          clear hbl
                          obtain ⟨kk, hkk, rfl, rfl, hbl⟩ := hrel
                          by_cases hl2 : kk < n
                          · obtain ⟨bA, oA, rfl, hbA, hA0, hA1⟩ := (rA6.below hbl).at_ kk hl2
                            have hm1 := hmm kk hl2
                            have hm2 := hmus kk (by omega)
                            have HMS : Hid (musTo L (kk + 1) = musTo L kk + (L[kk]?.getD (0, 0)).2) := rfl
                            have hkI : (kk : Int) < n := by omega
                            by_cases hk0 : kk = 0
                            · subst hk0
                              have hk00 : ¬ (0 : Int) < ((0 : Nat) : Int) := by omega
                              rw [Nat.zero_mul, Nat.add_zero] at hA0 hA1
                              clear hstep hSb hmus hmm rC6 rA6
                              generalize musTo L 0 = ma at *
                              generalize (L[0]?.getD (0, 0)).1 = sk at *
                              generalize (L[0]?.getD (0, 0)).2 = mk at *
                              go_wp2
                              go_big_quiet (fail)
                              go_wp2
                              go_roundw
                              case rel => exact ⟨0 + 1, by omega, by go_num, congrArg (Value.int .i64) (by rw [HMS.out]), by repeat (first | exact Below.refl _ _ | assumption | refine bExt ?_ _ | refine bAlloc ?_ _ | refine bDrewN ?_ _ | refine bDrew ?_ | refine bSet ?_ (by first | exact Nat.le_refl _ | omega | (simp; done) | (simp; omega)) _)⟩
                              case measure => simp [intOf]; omega
                            · obtain ⟨j', hj'⟩ : ∃ j', kk = j' + 1 := ⟨kk - 1, by omega⟩
                              have hI : (kk : Int) - 1 = j' := by omega
                              have hkp : (0 : Int) < kk := by omega
                              have hjn : (j' : Int) < n := by omega
                              have hst := hstep j' (by omega)
                              rw [← hj'] at hst
                              have s1 := hSb j' (by omega)
                              have s2 := hSb kk hl2
                              have m1 := hmm j' (by omega)
                              obtain ⟨bA', oA', hbe, hbA', hA0', hA1'⟩ := (rA6.below hbl).at_ j' (by omega)
                              injection hbe with hbe
                              injection hbe with hbe1 hbe2
                              subst hbe1 hbe2
                              obtain ⟨bC, oC, rfl, hbC, hcC⟩ := (rC6.below hbl).open_ (by omega)
                              have hc1 := hcC kk hl2
                              have hc2 := hcC j' (by omega)
                              rw [List.getD_eq_getElem?_getD] at hc1 hc2
                              have k3q := (hbl.cell (p := ⟨p0, 3, none⟩) hp6).trans k3'
                              have hp7 := Nat.lt_of_lt_of_le hp6 hbl.size
                              clear hstep hSb hmus hmm hcC rC6 rA6 hj' hA0' hbA' hk0
                              generalize musTo L kk = ma at *
                              generalize (L[kk]?.getD (0, 0)).1 = sk at *
                              generalize (L[kk]?.getD (0, 0)).2 = mk at *
                              generalize (L[j']?.getD (0, 0)).2 = mj at *
                              generalize S[kk]?.getD 0 = sa at *
                              generalize S[j']?.getD 0 = sb at *
                              have hw1 : IntKind.i64.wrap (sb + mj) = sb + mj := IntWalk.i64_in _ (by omega)
                              have hw2 : IntKind.i64.wrap (sb + mj + d3) = sb + mj + d3 := IntWalk.i64_in _ (by omega)
                              have hdd : decide (sa < sb + mj + d3) = false := decide_eq_false (by omega)
                              go_wp2
                              have hkp2 : (0 : Int) < kk := by omega
                              have hkp3 : 0 < kk := by omega
                              have hkp4 : decide ((0 : Int) < kk) = true := decide_eq_true hkp2
                              have hwI : IntKind.i64.wrap ((kk : Int) - 1) = j' := by rw [IntWalk.i64_in _ (by omega)]; omega
                              have hjn2 : (j' : Int) < n := by omega
                              have hkn2 : (kk : Int) < n := by omega
                              have hdd2 : decide (sa < sb + mj + d3) = false := decide_eq_false (by omega)
                              go_big_quiet (fail)
                              go_wp2
                              go_roundw
                              case rel => exact ⟨kk + 1, by omega, by go_num, congrArg (Value.int .i64) (by rw [HMS.out]), by repeat (first | exact Below.refl _ _ | assumption | refine bExt ?_ _ | refine bAlloc ?_ _ | refine bDrewN ?_ _ | refine bDrew ?_ | refine bSet ?_ (by first | exact Nat.le_refl _ | omega | (simp; done) | (simp; omega)) _)⟩
                              case measure => simp [intOf]; omega
                          · obtain rfl : kk = n := by omega
                            have k0q := (hbl.cell (p := ⟨p0, 0, none⟩) hp6).trans k0'
                            have k2q := (hbl.cell (p := ⟨p0, 2, none⟩) hp6).trans k2'
                            have k3q := (hbl.cell (p := ⟨p0, 3, none⟩) hp6).trans k3'
                            have hp7 := Nat.lt_of_lt_of_le hp6 hbl.size
                            have hm2 := hmus kk (by omega)
                            have hend := He.out
                            have u1 := mul_bd (a := (kk : Int)) (b := d3) (A := 40) (B := 300) (by omega) (by omega) (by omega) (by omega)
                            have u2 := mul_bd (a := (yn : Int)) (b := d2) (A := 40) (B := 600) (by omega) (by omega) (by omega) (by omega)
                            clear hstep hSb hmus hmm He rA6 rC6 k0' k2' k3'
                            generalize musTo L kk = ma at *
                            subst hend
                            go_wp2
                            go_ret
                            exact ⟨by first | rfl | exact ret_bool (by simp), BY6.trans (hbl.mono BY6.size)⟩
                    ⟩; by exact inferInstanceAs (Nonempty _)) (fun h => h)
              ⟩; by exact inferInstanceAs (Nonempty _)) (fun h => h)
          ⟩; by exact inferInstanceAs (Nonempty _)) (fun h => h)
      ⟩; by exact inferInstanceAs (Nonempty _)) (fun h => h)
set_option maxRecDepth 100000 in
theorem fnTimes_lifted (os : Os) (started : os.Started) (H : Type) (enc : TypeId × Value → H) :
    ReturnsInHanded {} Try.checked os 3 .any (Rows.fnTimesSpec.pre6 enc Try.prog Try.f3 Rows.fnTimesRow.domain false) (Rows.fnTimesSpec.post enc Try.prog Try.f3 false true false false) := by
  refine returnsInHanded_of_change (C := Try.checked) ownKnobNone started (by kernel_rfl) Try.func3
    (ChangeSpec.witness6 (enc := enc) (C := Try.checked) false ⟨#[], #[.slice none 0 0, .slice none 0 0], []⟩ 8 (by kernel_rfl) (by kernel_rfl) (by kernel_rfl) (by kernel_rfl)) ?_
  intro W base args ds gs before hval0 hW hcnd _
  have hval : ∀ (j : Nat) t v, Try.f3.params[j]? = some t → args[j]? = some v → Value.okWide Try.prog W .any base t v := hval0
  have hW' := hW
  obtain ⟨p, q, hA0, hV, rfl, hfz, hnd⟩ := hW
  have hA : DataW.TrodAll enc Try.prog W 0 (fun _ => true) true Try.f3.params.toList args.toList ds p := hA0
  have hAk := hA
  rw [Try.params3] at hA hval
  obtain ⟨v0, vs0, d0, ds0, p0, q0, hargs, rfl, rfl, h0, r0⟩ := trodAll_cons hA
  obtain ⟨v1, vs1, d1, ds1, p1, q1, rfl, rfl, rfl, h1, r1⟩ := trodAll_cons r0
  obtain ⟨rfl, rfl, rfl⟩ := trodAll_nil r1
  obtain rfl : args = #[v0, v1] := by cases args; simp_all
  obtain ⟨rfl, rfl⟩ := trodVars_none hV
  obtain ⟨A0, n0, c0, l0, rfl, g0, nc0, cm0⟩ := open_RdY (hval 0 22 v0 rfl rfl) h0
  obtain ⟨A1, n1, c1, l1, rfl, g1, nc1, cm1⟩ := open_RdY (hval 1 22 v1 rfl rfl) h1
  refine (law_Times _ _ _ _ _ g0 (by simp only [maxLen] at cm0; omega) _ _ _ _ g1 (by simp only [maxLen] at cm1; omega)).mono fun e W' hh => ?_
  obtain ⟨he, bel⟩ := hh
  subst he
  exact ⟨_, rfl, _, _, _, [], _, [], hW', trodAll_mk1 (shut_bool Try.underlying4 _), trodAll_below laidOutAll bel _ _ _ _ (by rw [tsOk, Try.params3]; kernel_rfl) hAk, rfl, bel.frame _, fun h => by cases h⟩
theorem fnTimes_holds : Rows.FnTimesSaid :=
  OpenClaim.holds_of_wide 3 Try.f3 rfl rfl rfl rfl rfl rfl rfl ⟨rfl, rfl, rfl, rfl, rfl⟩ rfl rfl rfl rfl rfl (by kernel_rfl) Try.func3 (by kernel_rfl)
    (of_decide_eq_true (by kernel_rfl)) (by unfold Func.isWrapper; first | (rw [if_pos (by decide +kernel)]; kernel_rfl) | (rw [if_neg (by decide +kernel)]; exact ⟨rfl, rfl⟩))
    (fun os started H enc _ => fnTimes_lifted os started H enc)
end Go.Proofs.Ytogglhgagblihaa
