/- The law FnDeviations returns true for every input. Conditions: none. -/
import Derived.Test.YtpjaiihkgeabiaaDraw20
import Derived.Test.YtpjaiihkgeabiaaDevQ
import Derived.Test.YtpjaiihkgeabiaaLiftByte
import Derived.Test.YtpjaiihkgeabiaaLawKit
import Derived.Deep.RegionHeld3
import Derived.Deep.DeepCutAuto
set_option linter.unusedVariables false
set_option linter.unusedSimpArgs false
set_option maxRecDepth 100000
namespace Go.Proofs.Ytpjaiihkgeabiaa
open Go.ChangeShapes Go.WideShapes Go.ChangeAt Go.RowKit
theorem qAbs_any (a : Int) (w : World) (h : -4611686018427387904 ≤ a) (h' : a ≤ 4611686018427387904) :
    Calls Try.prog 22 #[.int .i64 a] w fun e w' => e = .returned (.int .i64 (absM a)) ∧ w = w' := by
  by_cases hc : a < 0
  · have e : absM a = -a := by unfold absM; omega
    rw [e]
    go_enter Try.func22, Try.ntmps22
    go_wp2
    go_ret
    exact ⟨rfl, rfl⟩
  · have e : absM a = a := by unfold absM; omega
    rw [e]
    go_enter Try.func22, Try.ntmps22
    go_wp2
    go_ret
    exact ⟨rfl, rfl⟩
theorem has_take {l : List Int} {x : Int} {k : Nat} (hk : k < l.length) (hT : hasI (l.take k) x = false) : hasI (l.take (k + 1)) x = (l[k]?.getD 0 == x) := by
  unfold hasI at *
  rw [take_succ_getD 0 l k hk, List.any_append, hT]
  simp
theorem has_hit {l : List Int} {x : Int} {k : Nat} (hk : k < l.length) (h : (l[k]?.getD 0 == x) = true) : hasI l x = true := by
  have e : l[k]?.getD 0 = x := by simpa using h
  exact hasI_of (e ▸ getD_mem 0 l k hk)
set_option maxHeartbeats 400000 in
theorem qHas_any (w : World) (A : Option Addr) (n c : Nat) (l : List Int) (x : Int) (ha : RdI w A n l) (hn : n ≤ 1000) :
    Calls Try.prog 20 #[.slice A n c, .int .i64 x] w fun e w' => e = .returned (.bool (hasI l x)) ∧ w = w' := by
  have Hl := Lib.hid ha.len
  go_enter Try.func20, Try.ntmps20
  go_wp2
  go_loop [6, 9] (fun _ i => ∃ k : Nat, k ≤ n ∧ i = .int .i64 k ∧ Hid (hasI (l.take k) x = false)) (fun _ i => n - (intOf i).toNat)
  case atStart => exact ⟨0, by omega, rfl, by simp [hasI, Hid]⟩
  case round =>
    obtain ⟨k, hk, rfl, HT⟩ := hrel
    by_cases hlt : k < n
    · obtain ⟨b, off, rfl, hb0, hc⟩ := ha.open_ (by omega)
      have hck := hc k hlt
      rw [List.getD_eq_getElem?_getD] at hck
      have HN := Lib.hid (has_take (x := x) (k := k) (by rw [Hl.out]; exact hlt) HT.out)
      have HH := Lib.hid (@has_hit l x k (by rw [Hl.out]; exact hlt))
      clear hc
      generalize l[k]?.getD 0 = y at *
      cases hy : (y == x)
      · go_wp2
        go_round
        case rel => exact ⟨k + 1, by omega, by go_num, HN.out.trans hy⟩
        case measure => simp [intOf]; omega
      · have HY := Lib.hid (HH.out hy)
        go_wp2
        go_ret
        exact ⟨ret_bool HY.out.symm, rfl⟩
    · have HE := Lib.hid (show hasI l x = false by have := HT.out; rwa [List.take_of_length_le (by rw [Hl.out]; omega)] at this)
      go_wp2
      go_ret
      exact ⟨ret_bool HE.out.symm, rfl⟩
theorem specJudgesOf_any (w : World) (A B : Option Addr) (n m c d : Nat) (gg kk : List (List Int)) (hm : RdMk w A n B m gg kk) (hk : marksB gg kk = true) :
    Calls Try.prog 21 #[.agg #[.slice A n c, .slice B m d]] w fun e w' => e = .returned (.tuple #[.int .i64 (judgesN kk), .bool true]) ∧ ∃ x, w' = ext w x := by
  have h3 : 0 < m := by have := (marksB_of hk).1; have := hm.2.1.len; omega
  have ca := fun W (h : Below w.heap.size w W) => mkAll_any W A B n m c d gg kk (hm.below h)
  simp only [hk] at ca
  go_enter Try.func21, Try.ntmps21
  go_wp2_with (first | (go_at_call 35; ((with_reducible refine (ca _ (by repeat (first | exact Below.refl _ _ | assumption | refine bExt ?_ _ | refine bAlloc ?_ _ | refine bDrewN ?_ _ | refine bDrew ?_ | refine bSet ?_ (by first | exact Nat.le_refl _ | omega | (simp; done) | (simp; omega)) _))).mono ?_); rintro e w' ⟨rfl, x, rfl⟩)) | (go_at_call 46; ((with_reducible refine (mkJudges_any _ _ _ _ _ _ _ _ _ (hm.below (by repeat (first | exact Below.refl _ _ | assumption | refine bExt ?_ _ | refine bAlloc ?_ _ | refine bDrewN ?_ _ | refine bDrew ?_ | refine bSet ?_ (by first | exact Nat.le_refl _ | omega | (simp; done) | (simp; omega)) _))) h3).mono ?_); rintro e w' ⟨rfl, y, rfl⟩)))
  go_ret2
  exact ⟨rfl, ext_ex (by repeat (first | exact Below.refl _ _ | assumption | refine bExt ?_ _ | refine bAlloc ?_ _ | refine bDrewN ?_ _ | refine bDrew ?_ | refine bSet ?_ (by first | exact Nat.le_refl _ | omega | (simp; done) | (simp; omega)) _))⟩
theorem qInts_self (w : World) (A B : Option Addr) (n m c d : Nat) (l : List Int) (ha : RdI w A n l) (hb : RdI w B m l) (hn : n ≤ 1099511627776) :
    Calls Try.prog 19 #[.slice A n c, .slice B m d] w fun e w' => e = .returned (.bool true) ∧ ∃ x, w' = ext w x :=
  (qInts_any w A B n m c d l l ha hb hn).mono fun e w' h => ⟨by rw [h.1, sameB_iff.2 rfl], h.2⟩
set_option maxHeartbeats 4000000 in
theorem law_Deviations (w : World) (A0 : Option Addr) (n0 c0 : Nat) (l0 : List Int) (ha0 : RdY w A0 n0 l0) (hm0 : n0 ≤ 9223372036854775807) (A1 : Option Addr) (n1 c1 : Nat) (l1 : List Int) (ha1 : RdY w A1 n1 l1) (hm1 : n1 ≤ 9223372036854775807) :
    Calls Try.prog 3 #[.slice A0 n0 c0, .slice A1 n1 c1] w fun e w' => e = .returned (.bool true) ∧ Below w.heap.size w w' := by
  by_cases hs : (1048576 : Int) < wrap64 (n0 + n1)
  · go_enter Try.func3, Try.ntmps3
    go_wp2_with fail
    go_ret
    exact ⟨rfl, by repeat (first | exact Below.refl _ _ | assumption | refine bExt ?_ _ | refine bAlloc ?_ _ | refine bDrewN ?_ _ | refine bDrew ?_ | refine bSet ?_ (by first | exact Nat.le_refl _ | omega | (simp; done) | (simp; omega)) _)⟩
  have hsd : decide ((1048576 : Int) < wrap64 (n0 + n1)) = false := decide_eq_false hs
  go_enter Try.func3, Try.ntmps3
  go_wp2_with fail
  refine (drawDeviationOf_any _ _ _ _ _ ha0 hm0).mono ?_
  rintro e wx ⟨A, n, c, G, B, m, d, K, ju, x1, rfl, hwx, OM⟩
  rw [← hwx] at OM
  obtain ⟨rM, _, _, _, _⟩ := OM
  have bx : Below w.heap.size w wx := by rw [hwx]; repeat (first | exact Below.refl _ _ | assumption | refine bExt ?_ _ | refine bAlloc ?_ _ | refine bDrewN ?_ _ | refine bDrew ?_ | refine bSet ?_ (by first | exact Nat.le_refl _ | omega | (simp; done) | (simp; omega)) _)
  have ha2 : RdY wx A1 n1 l1 := ha1.below bx
  clear hwx ha0 ha1 hs hsd
  go_wp2_with fail
  have hpm := heap_alloc_new wx (.cells #[.slice A n c, .slice B m d] 25)
  refine (implDeviationOf_any _ A B n m c d G K (rM.below (by repeat (first | exact Below.refl _ _ | assumption | refine bExt ?_ _ | refine bAlloc ?_ _ | refine bDrewN ?_ _ | refine bDrew ?_ | refine bSet ?_ (by first | exact Nat.le_refl _ | omega | (simp; done) | (simp; omega)) _))) ju).mono ?_
  rintro e w1 ⟨rfl, x2, rfl⟩
  go_wp2_with fail
  refine (specDeviationOf_any _ A B n m c d G K (rM.below (by repeat (first | exact Below.refl _ _ | assumption | refine bExt ?_ _ | refine bAlloc ?_ _ | refine bDrewN ?_ _ | refine bDrew ?_ | refine bSet ?_ (by first | exact Nat.le_refl _ | omega | (simp; done) | (simp; omega)) _))) ju).mono ?_
  rintro e w1 ⟨rfl, x3, rfl⟩
  go_wp2_with fail
  refine (implRangesOf_any _ A B n m c d G K (rM.below (by repeat (first | exact Below.refl _ _ | assumption | refine bExt ?_ _ | refine bAlloc ?_ _ | refine bDrewN ?_ _ | refine bDrew ?_ | refine bSet ?_ (by first | exact Nat.le_refl _ | omega | (simp; done) | (simp; omega)) _)))).mono ?_
  rintro e w1 ⟨R, rn, rc, x4, rfl, rfl, oR⟩
  go_wp2_with fail
  refine (specRangesOf_any _ A B n m c d G K (rM.below (by repeat (first | exact Below.refl _ _ | assumption | refine bExt ?_ _ | refine bAlloc ?_ _ | refine bDrewN ?_ _ | refine bDrew ?_ | refine bSet ?_ (by first | exact Nat.le_refl _ | omega | (simp; done) | (simp; omega)) _)))).mono ?_
  rintro e w1 ⟨R2, rn2, rc2, x5, rfl, rfl, oR2⟩
  go_wp2_with fail
  refine (implDoubleMedians_any _ A B n m c d G K (rM.below (by repeat (first | exact Below.refl _ _ | assumption | refine bExt ?_ _ | refine bAlloc ?_ _ | refine bDrewN ?_ _ | refine bDrew ?_ | refine bSet ?_ (by first | exact Nat.le_refl _ | omega | (simp; done) | (simp; omega)) _)))).mono ?_
  rintro e w1 ⟨H, hn, hc, x6, rfl, rfl, oH⟩
  go_wp2_with fail
  refine (specDoubleMedians_any _ A B n m c d G K (rM.below (by repeat (first | exact Below.refl _ _ | assumption | refine bExt ?_ _ | refine bAlloc ?_ _ | refine bDrewN ?_ _ | refine bDrew ?_ | refine bSet ?_ (by first | exact Nat.le_refl _ | omega | (simp; done) | (simp; omega)) _)))).mono ?_
  rintro e w1 ⟨H2, hn2, hc2, x7, rfl, rfl, oH2⟩
  go_wp2_with fail
  have hrn : rn ≤ 1099511627776 := by rw [← oR.len]; exact Nat.le_trans (rangesV_len _ _) (by omega)
  have hhn : hn ≤ 1099511627776 := by rw [← oH.len]; exact Nat.le_trans (mediansV_len _ _) (by omega)
  generalize hw4 : ext (ext (ext (ext (ext (ext (wx.alloc (.cells #[.slice A n c, .slice B m d] 25)) x2) x3) x4) x5) x6) x7 = w4 at *
  have bW : Below wx.heap.size wx w4 := by rw [← hw4]; repeat (first | exact Below.refl _ _ | assumption | refine bExt ?_ _ | refine bAlloc ?_ _ | refine bDrewN ?_ _ | refine bDrew ?_ | refine bSet ?_ (by first | exact Nat.le_refl _ | omega | (simp; done) | (simp; omega)) _)
  have hp4 := heap_old hpm (show Below (wx.alloc (.cells #[.slice A n c, .slice B m d] 25)).heap.size (wx.alloc (.cells #[.slice A n c, .slice B m d] 25)) w4 by rw [← hw4]; repeat (first | exact Below.refl _ _ | assumption | refine bExt ?_ _ | refine bAlloc ?_ _ | refine bDrewN ?_ _ | refine bDrew ?_ | refine bSet ?_ (by first | exact Nat.le_refl _ | omega | (simp; done) | (simp; omega)) _))
  have rR : RdI w4 R rn (rangesV G K) := oR.rd.below (by rw [← hw4]; repeat (first | exact Below.refl _ _ | assumption | refine bExt ?_ _ | refine bAlloc ?_ _ | refine bDrewN ?_ _ | refine bDrew ?_ | refine bSet ?_ (by first | exact Nat.le_refl _ | omega | (simp; done) | (simp; omega)) _))
  have rR2 : RdI w4 R2 rn2 (rangesV G K) := oR2.rd.below (by rw [← hw4]; repeat (first | exact Below.refl _ _ | assumption | refine bExt ?_ _ | refine bAlloc ?_ _ | refine bDrewN ?_ _ | refine bDrew ?_ | refine bSet ?_ (by first | exact Nat.le_refl _ | omega | (simp; done) | (simp; omega)) _))
  have rH : RdI w4 H hn (mediansV G K) := oH.rd.below (by rw [← hw4]; repeat (first | exact Below.refl _ _ | assumption | refine bExt ?_ _ | refine bAlloc ?_ _ | refine bDrewN ?_ _ | refine bDrew ?_ | refine bSet ?_ (by first | exact Nat.le_refl _ | omega | (simp; done) | (simp; omega)) _))
  have rH2 : RdI w4 H2 hn2 (mediansV G K) := oH2.rd.below (by rw [← hw4]; repeat (first | exact Below.refl _ _ | assumption | refine bExt ?_ _ | refine bAlloc ?_ _ | refine bDrewN ?_ _ | refine bDrew ?_ | refine bSet ?_ (by first | exact Nat.le_refl _ | omega | (simp; done) | (simp; omega)) _))
  have rM4 := rM.below bW
  have ha3 := ha2.below bW
  have BW4 : Below w.heap.size w w4 := bx.trans (bW.mono bx.size)
  clear hw4 oR oR2 oH oH2 rM hpm ha2 bW bx
  generalize wx.heap.size = pm at *
  refine (drawAgreementOf_any _ _ _ _ _ ha3 hm1).mono ?_
  rintro e wy ⟨XA, xn, xc, XG, XB, xm, xd, XK, ja, jb, x8, rfl, _, hwy, OM⟩
  rw [← hwy] at OM
  obtain ⟨rX, hxc, _, _, _⟩ := OM
  have by1 : Below w4.heap.size w4 wy := by rw [hwy]; repeat (first | exact Below.refl _ _ | assumption | refine bExt ?_ _ | refine bAlloc ?_ _ | refine bDrewN ?_ _ | refine bDrew ?_ | refine bSet ?_ (by first | exact Nat.le_refl _ | omega | (simp; done) | (simp; omega)) _)
  have hp5 := heap_old hp4 by1
  have rR5 := rR.below by1
  have rR25 := rR2.below by1
  have rH5 := rH.below by1
  have rH25 := rH2.below by1
  have rM5 := rM4.below by1
  have ha4 := ha3.below by1
  have BW5 := BW4.trans (by1.mono BW4.size)
  clear hwy hp4 rR rR2 rH rH2 rM4 ha3 by1 BW4
  go_wp2_with fail
  have hxm := heap_alloc_new wy (.cells #[.slice XA xn xc, .slice XB xm xd] 25)
  refine (implAgreementOf_any _ XA XB xn xm xc xd XG XK (rX.below (by repeat (first | exact Below.refl _ _ | assumption | refine bExt ?_ _ | refine bAlloc ?_ _ | refine bDrewN ?_ _ | refine bDrew ?_ | refine bSet ?_ (by first | exact Nat.le_refl _ | omega | (simp; done) | (simp; omega)) _))) ja jb).mono ?_
  rintro e w1 ⟨rfl, x9, rfl⟩
  go_wp2_with fail
  refine (specAgreementOf_any _ XA XB xn xm xc xd XG XK (rX.below (by repeat (first | exact Below.refl _ _ | assumption | refine bExt ?_ _ | refine bAlloc ?_ _ | refine bDrewN ?_ _ | refine bDrew ?_ | refine bSet ?_ (by first | exact Nat.le_refl _ | omega | (simp; done) | (simp; omega)) _))) ja jb).mono ?_
  rintro e w1 ⟨rfl, x10, rfl⟩
  go_wp2_with fail
  refine (implOrderAgreement_any _ XA XB xn xm xc xd XG XK (rX.below (by repeat (first | exact Below.refl _ _ | assumption | refine bExt ?_ _ | refine bAlloc ?_ _ | refine bDrewN ?_ _ | refine bDrew ?_ | refine bSet ?_ (by first | exact Nat.le_refl _ | omega | (simp; done) | (simp; omega)) _))) hxc ja jb).mono ?_
  rintro e w1 ⟨rfl, x11, rfl⟩
  go_wp2_with fail
  refine (specOrderAgreement_any _ XA XB xn xm xc xd XG XK (rX.below (by repeat (first | exact Below.refl _ _ | assumption | refine bExt ?_ _ | refine bAlloc ?_ _ | refine bDrewN ?_ _ | refine bDrew ?_ | refine bSet ?_ (by first | exact Nat.le_refl _ | omega | (simp; done) | (simp; omega)) _))) hxc ja jb).mono ?_
  rintro e w1 ⟨rfl, x12, rfl⟩
  go_wp2_with fail
  generalize hw6 : ext (ext (ext (ext (wy.alloc (.cells #[.slice XA xn xc, .slice XB xm xd] 25)) x9) x10) x11) x12 = w6 at *
  have bW : Below wy.heap.size wy w6 := by rw [← hw6]; repeat (first | exact Below.refl _ _ | assumption | refine bExt ?_ _ | refine bAlloc ?_ _ | refine bDrewN ?_ _ | refine bDrew ?_ | refine bSet ?_ (by first | exact Nat.le_refl _ | omega | (simp; done) | (simp; omega)) _)
  have hx6 := heap_old hxm (show Below (wy.alloc (.cells #[.slice XA xn xc, .slice XB xm xd] 25)).heap.size (wy.alloc (.cells #[.slice XA xn xc, .slice XB xm xd] 25)) w6 by rw [← hw6]; repeat (first | exact Below.refl _ _ | assumption | refine bExt ?_ _ | refine bAlloc ?_ _ | refine bDrewN ?_ _ | refine bDrew ?_ | refine bSet ?_ (by first | exact Nat.le_refl _ | omega | (simp; done) | (simp; omega)) _))
  have hp6 := heap_old hp5 bW
  have rR6 := rR5.below bW
  have rR26 := rR25.below bW
  have rH6 := rH5.below bW
  have rH26 := rH25.below bW
  have rM6 := rM5.below bW
  have rX6 := rX.below bW
  have ha5 := ha4.below bW
  have BW6 := BW5.trans (bW.mono BW5.size)
  clear hw6 hxm hp5 rR5 rR25 rH5 rH25 rM5 rX ha4 bW BW5
  generalize wy.heap.size = px at *
  refine (drawOutsideOf_any _ _ _ _ _ ha5 hm1).mono ?_
  rintro e wz ⟨YA, yn, yc, YG, YB, ym, yd, YK, it, lim, x13, rfl, hlim, hwz, OM⟩
  rw [← hwz] at OM
  obtain ⟨rY, _, _, _, _⟩ := OM
  have bz1 : Below w6.heap.size w6 wz := by rw [hwz]; repeat (first | exact Below.refl _ _ | assumption | refine bExt ?_ _ | refine bAlloc ?_ _ | refine bDrewN ?_ _ | refine bDrew ?_ | refine bSet ?_ (by first | exact Nat.le_refl _ | omega | (simp; done) | (simp; omega)) _)
  have hp7 := heap_old hp6 bz1
  have hx7 := heap_old hx6 bz1
  have rR7 := rR6.below bz1
  have rR27 := rR26.below bz1
  have rH7 := rH6.below bz1
  have rH27 := rH26.below bz1
  have rM7 := rM6.below bz1
  have rX7 := rX6.below bz1
  have BW7 := BW6.trans (bz1.mono BW6.size)
  clear hwz hp6 hx6 rR6 rR26 rH6 rH26 rM6 rX6 ha5 bz1 BW6
  go_wp2_with fail
  have hym := heap_alloc_new wz (.cells #[.slice YA yn yc, .slice YB ym yd] 25)
  refine (implOutsideOf_any _ YA YB yn ym yc yd YG YK (rY.below (by repeat (first | exact Below.refl _ _ | assumption | refine bExt ?_ _ | refine bAlloc ?_ _ | refine bDrewN ?_ _ | refine bDrew ?_ | refine bSet ?_ (by first | exact Nat.le_refl _ | omega | (simp; done) | (simp; omega)) _))) it lim).mono ?_
  rintro e w1 ⟨O, on, oc, x14, rfl, rfl, oO⟩
  go_wp2_with fail
  refine (specOutsideOf_any _ YA YB yn ym yc yd YG YK (rY.below (by repeat (first | exact Below.refl _ _ | assumption | refine bExt ?_ _ | refine bAlloc ?_ _ | refine bDrewN ?_ _ | refine bDrew ?_ | refine bSet ?_ (by first | exact Nat.le_refl _ | omega | (simp; done) | (simp; omega)) _))) it lim).mono ?_
  rintro e w1 ⟨O2, on2, oc2, x15, rfl, rfl, oO2⟩
  have hon : on ≤ 1099511627776 := by rw [← oO.len]; exact Nat.le_trans (outV_len _ _ _ _) (by omega)
  go_upto_if 243 with (first
    | (go_at_call 19; ((with_reducible refine (qInts_self _ _ _ _ _ _ _ _ (rR7.below (by repeat (first | exact Below.refl _ _ | assumption | refine bExt ?_ _ | refine bAlloc ?_ _ | refine bDrewN ?_ _ | refine bDrew ?_ | refine bSet ?_ (by first | exact Nat.le_refl _ | omega | (simp; done) | (simp; omega)) _))) (rR27.below (by repeat (first | exact Below.refl _ _ | assumption | refine bExt ?_ _ | refine bAlloc ?_ _ | refine bDrewN ?_ _ | refine bDrew ?_ | refine bSet ?_ (by first | exact Nat.le_refl _ | omega | (simp; done) | (simp; omega)) _))) hrn).mono ?_); rintro e w' ⟨rfl, x16, rfl⟩))
    | (go_at_call 19; ((with_reducible refine (qInts_self _ _ _ _ _ _ _ _ (rH7.below (by repeat (first | exact Below.refl _ _ | assumption | refine bExt ?_ _ | refine bAlloc ?_ _ | refine bDrewN ?_ _ | refine bDrew ?_ | refine bSet ?_ (by first | exact Nat.le_refl _ | omega | (simp; done) | (simp; omega)) _))) (rH27.below (by repeat (first | exact Below.refl _ _ | assumption | refine bExt ?_ _ | refine bAlloc ?_ _ | refine bDrewN ?_ _ | refine bDrew ?_ | refine bSet ?_ (by first | exact Nat.le_refl _ | omega | (simp; done) | (simp; omega)) _))) hhn).mono ?_); rintro e w' ⟨rfl, x17, rfl⟩))
    | (go_at_call 19; ((with_reducible refine (qInts_self _ _ _ _ _ _ _ _ (oO.rd.below (by repeat (first | exact Below.refl _ _ | assumption | refine bExt ?_ _ | refine bAlloc ?_ _ | refine bDrewN ?_ _ | refine bDrew ?_ | refine bSet ?_ (by first | exact Nat.le_refl _ | omega | (simp; done) | (simp; omega)) _))) (oO2.rd.below (by repeat (first | exact Below.refl _ _ | assumption | refine bExt ?_ _ | refine bAlloc ?_ _ | refine bDrewN ?_ _ | refine bDrew ?_ | refine bSet ?_ (by first | exact Nat.le_refl _ | omega | (simp; done) | (simp; omega)) _))) hon).mono ?_); rintro e w' ⟨rfl, x18, rfl⟩)))
  generalize hw8 : ext (ext (ext (ext (ext (wz.alloc (.cells #[.slice YA yn yc, .slice YB ym yd] 25)) x14) x15) x16) x17) x18 = w8 at *
  have bW : Below wz.heap.size wz w8 := by rw [← hw8]; repeat (first | exact Below.refl _ _ | assumption | refine bExt ?_ _ | refine bAlloc ?_ _ | refine bDrewN ?_ _ | refine bDrew ?_ | refine bSet ?_ (by first | exact Nat.le_refl _ | omega | (simp; done) | (simp; omega)) _)
  have hy8 := heap_old hym (show Below (wz.alloc (.cells #[.slice YA yn yc, .slice YB ym yd] 25)).heap.size (wz.alloc (.cells #[.slice YA yn yc, .slice YB ym yd] 25)) w8 by rw [← hw8]; repeat (first | exact Below.refl _ _ | assumption | refine bExt ?_ _ | refine bAlloc ?_ _ | refine bDrewN ?_ _ | refine bDrew ?_ | refine bSet ?_ (by first | exact Nat.le_refl _ | omega | (simp; done) | (simp; omega)) _))
  have rO8 : RdI w8 O2 on2 (outV YG YK it lim) := oO2.rd.below (by rw [← hw8]; repeat (first | exact Below.refl _ _ | assumption | refine bExt ?_ _ | refine bAlloc ?_ _ | refine bDrewN ?_ _ | refine bDrew ?_ | refine bSet ?_ (by first | exact Nat.le_refl _ | omega | (simp; done) | (simp; omega)) _))
  have hp8 := heap_old hp7 bW
  have hx8 := heap_old hx7 bW
  have rR8 := rR27.below bW
  have rH8 := rH27.below bW
  have rM8 := rM7.below bW
  have rX8 := rX7.below bW
  have rY8 := rY.below bW
  have BW8 := BW7.trans (bW.mono BW7.size)
  clear hw8 hym oO oO2 hp7 hx7 rR7 rR27 rH7 rH27 rM7 rX7 rY bW BW7 hrn hhn hon
  generalize wz.heap.size = py at *
  have HA := Lib.hid (@agree_facts XG XK ja jb)
  go_cut [] (fun wq => Below w8.heap.size w8 wq)
  case first =>
    exact Nonempty.elim (α := type_of% ?k1) (letI i : Nonempty (type_of% ?k1) := ⟨by
      clear hy8 rO8 hp8 rR8 rH8 rM8 rY8 BW8
      have e1 := implAgreementOf_any w8 XA XB xn xm xc xd XG XK rX8 jb ja
      rw [agOk_swap XG XK ja jb, agV_swap XG XK ja jb] at e1
      have hxl := rX8.1.len
      obtain ⟨⟨q0, q1⟩, q2, q3⟩ := blk2 hx8
      have hpx : px < w8.heap.size := (Array.getElem?_eq_some_iff.1 hx8).1
      rw [hxl] at HA
      generalize agOk XG XK ja jb = ok at *
      cases ok
      · clear e1 HA
        go_wp2
        go_meet
        exact Below.refl _ _
      · have hag := HA.out rfl
        clear HA rX8 hxl hx8
        generalize agV XG XK ja jb = av at *
        generalize oaV XG XK ja jb 1 = s1 at *
        generalize oaV XG XK ja jb (-1) = s2 at *
        obtain ⟨h14, ⟨ha0, ha1⟩, ⟨hb0, hb1⟩, ⟨hc0, hc1⟩, hpair, heq⟩ := hag
        obtain ⟨hp1, hp2⟩ := tri14 xn h14
        have w1 : IntKind.i64.wrap (s1 + s2) = s1 + s2 := IntWalk.i64_in _ (by omega)
        have w2 : IntKind.i64.wrap (2 * (s1 + s2)) = 2 * (s1 + s2) := IntWalk.i64_in _ (by omega)
        have w3 : IntKind.i64.wrap ((xn : Int) - 1) = xn - 1 := IntWalk.i64_in _ (by omega)
        have w4 : IntKind.i64.wrap ((xn : Int) * ((xn : Int) - 1)) = xn * ((xn : Int) - 1) := IntWalk.i64_in _ (by omega)
        have hg1 : decide ((xn : Int) < av) = false := decide_eq_false (by omega)
        have hg2 : decide ((xn : Int) * ((xn : Int) - 1) < 2 * (s1 + s2)) = false := decide_eq_false (by omega)
        by_cases hab : ja = jb
        · subst hab
          obtain ⟨rfl, rfl⟩ := heq rfl
          simp only [Int.add_zero] at w1 w2 hg2
          clear heq hp1 hp2 ha0 ha1 hb0 hb1 hc0 hc1 hpair
          go_wp2_with ((go_at_call 12; ((with_reducible refine (e1).mono ?_); rintro e w' ⟨rfl, y1, rfl⟩)))
          go_meet
          exact ext_below _ _
        · have hne : (ja == jb) = false := by simpa using hab
          clear heq hp1 hp2 ha0 ha1 hb0 hb1 hc0 hc1 hpair
          go_wp2_with ((go_at_call 12; ((with_reducible refine (e1).mono ?_); rintro e w' ⟨rfl, y1, rfl⟩)))
          go_meet
          exact ext_below _ _
      ⟩; by exact inferInstanceAs (Nonempty _)) (fun h => h)
  case rest =>
    exact Nonempty.elim (α := type_of% ?k11) (letI i : Nonempty (type_of% ?k11) := ⟨by
      have bz := hcut
      clear hcut HA
      rename World => w9
      have BW9 := BW8.trans (bz.mono BW8.size)
      have hp9 := heap_old hp8 bz
      have hy9 := heap_old hy8 bz
      have rO9 := rO8.below bz
      have rR9 := rR8.below bz
      have rH9 := rH8.below bz
      have rM9 := rM8.below bz
      have rY9 := rY8.below bz
      clear hp8 hy8 hx8 rO8 rR8 rH8 rM8 rX8 rY8 BW8 bz
      go_upto_region 25 with fail
      go_cut [295] (fun v wq => v = .bool (outOk YG YK it lim && decide (lim < 10)) ∧ wq = w9)
      case first =>
        exact Nonempty.elim (α := type_of% ?k2) (letI i : Nonempty (type_of% ?k2) := ⟨by
          clear hp9 hy9 rO9 rR9 rH9 rM9 rY9 BW9
          generalize outOk YG YK it lim = ok at *
          cases ok
          · go_wp2
            go_meet
            exact ⟨by simp, rfl⟩
          · go_wp2
            go_meet
            exact ⟨by simp, rfl⟩
          ⟩; by exact inferInstanceAs (Nonempty _)) (fun h => h)
      case rest =>
        exact Nonempty.elim (α := type_of% ?k10) (letI i : Nonempty (type_of% ?k10) := ⟨by
          obtain ⟨rfl, hcw⟩ := hcut
          have hcw := hcw.symm
          subst hcw
          go_upto_if 295 with fail
          have HO := Lib.hid (@out_more YG YK it lim)
          go_cut [] (fun wq => Below w9.heap.size w9 wq)
          case first =>
            exact Nonempty.elim (α := type_of% ?k3) (letI i : Nonempty (type_of% ?k3) := ⟨by
              clear hp9 rR9 rH9 rM9 BW9
              obtain ⟨⟨q0, q1⟩, q2, q3⟩ := blk2 hy9
              have hpy : py < w9.heap.size := (Array.getElem?_eq_some_iff.1 hy9).1
              have e1 := implOutsideOf_any w9 YA YB yn ym yc yd YG YK rY9 it (lim + 1)
              have hl9 := outV_len YG YK it (lim + 1)
              have hO2 : on2 ≤ 1000 := by rw [← rO9.len]; exact Nat.le_trans (outV_len _ _ _ _) (by omega)
              have hw : IntKind.i64.wrap (lim + 1) = lim + 1 := IntWalk.i64_in _ (by omega)
              clear hy9 rY9
              generalize outOk YG YK it lim = ok at *
              by_cases hl : lim < 10
              · have hld : decide (lim < 10) = true := decide_eq_true hl
                rw [hld]
                cases ok
                · go_wp2
                  go_meet
                  exact Below.refl _ _
                · obtain ⟨h1, h2⟩ := HO.out rfl hl
                  rw [h1] at e1
                  clear HO h1
                  generalize outV YG YK it (lim + 1) = FL at *
                  generalize outV YG YK it lim = OL at *
                  go_wp2_with ((go_at_call 17; ((with_reducible refine (e1).mono ?_); rintro e w' ⟨F, fn, fc, y1, rfl, rfl, oF⟩)))
                  have rF := oF.rd
                  rw [rF.len] at h2 hl9
                  have rO := rO9.below (ext_below w9 y1)
                  have hW := ext_below w9 y1
                  clear e1 oF rO9 q0 q1 q2 q3 hpy
                  generalize ext w9 y1 = w10 at *
                  go_loopw [47, 308] (fun _ ix wr => ∃ k : Nat, k ≤ fn ∧ ix = .int .i64 k ∧ wr = w10) (fun _ ix _ => fn - (intOf ix).toNat)
                  case atStart => exact ⟨0, by omega, rfl, rfl⟩
                  case round =>
                    obtain ⟨k, hk, rfl, rfl⟩ := hrel
                    by_cases hlt : k < fn
                    · obtain ⟨b, off, rfl, hb0, hc⟩ := rF.open_ (by omega)
                      have hck := hc k hlt
                      rw [List.getD_eq_getElem?_getD] at hck
                      have hx := h2 k hlt
                      have cq := qHas_any wr O2 on2 oc2 OL (FL[k]?.getD 0) rO hO2
                      rw [hx] at cq
                      clear hc hx h2
                      generalize FL[k]?.getD 0 = x at *
                      go_wp2_with ((go_at_call 20; ((with_reducible refine (cq).mono ?_); rintro e w' ⟨rfl, rfl⟩)))
                      go_roundw
                      case rel => exact ⟨k + 1, by omega, by go_num, by first | rfl | trivial⟩
                      case measure => simp [intOf]; omega
                    · go_wp2
                      go_meet
                      exact hW
              · have hld : decide (lim < 10) = false := decide_eq_false hl
                rw [hld, Bool.and_false]
                go_wp2
                go_meet
                exact Below.refl _ _
              ⟩; by exact inferInstanceAs (Nonempty _)) (fun h => h)
          case rest =>
            exact Nonempty.elim (α := type_of% ?k9) (letI i : Nonempty (type_of% ?k9) := ⟨by
              have bz := hcut
              clear hcut HO
              rename World => w11
              have BW11 := BW9.trans (bz.mono BW9.size)
              have hp11 := heap_old hp9 bz
              have rR11 := rR9.below bz
              have rH11 := rH9.below bz
              have rM11 := rM9.below bz
              clear hp9 hy9 rO9 rR9 rH9 rM9 rY9 BW9 bz
              go_upto_if 317 with fail
              have HI := Lib.hid (fun (h : marksB G K = true) (i : Nat) (hi : i < G.length) => item_facts h hi)
              go_cut [] (fun wq => Below w11.heap.size w11 wq)
              case first =>
                exact Nonempty.elim (α := type_of% ?k6) (letI i : Nonempty (type_of% ?k6) := ⟨by
                  obtain ⟨⟨q0, q1⟩, q2, q3⟩ := blk2 hp11
                  have hpm : pm < w11.heap.size := (Array.getElem?_eq_some_iff.1 hp11).1
                  have hlR : marksB G K = true → rn2 = n := fun h => by rw [← rR11.len, ← rM11.1.len]; simp [rangesV, h]
                  have hlH : marksB G K = true → hn2 = n := fun h => by rw [← rH11.len, ← rM11.1.len]; simp [mediansV, h]
                  have hGl := rM11.1.len
                  have hrM := rM11.1
                  rw [hGl] at HI
                  clear hp11 BW11 hGl rM11
                  generalize marksB G K = ok at *
                  cases ok
                  · clear HI hlR hlH
                    go_wp2
                    go_meet
                    exact Below.refl _ _
                  · obtain rfl := hlR rfl
                    obtain rfl := hlH rfl
                    have hI := HI.out rfl
                    clear HI hlR hlH
                    generalize judgesN K = J at *
                    generalize rangesV G K = RV at *
                    generalize mediansV G K = MV at *
                    go_wp2
                    go_loopw [48, 49, 50, 51, 53, 320] (fun _ _ _ _ _ ix wr => ∃ i : Nat, i ≤ hn2 ∧ ix = .int .i64 i ∧ wr = w11) (fun _ _ _ _ _ ix _ => hn2 - (intOf ix).toNat)
                    case atStart => exact ⟨0, by omega, rfl, rfl⟩
                    case round =>
                      exact Nonempty.elim (α := type_of% ?k5) (letI i : Nonempty (type_of% ?k5) := ⟨by
                        obtain ⟨i, hi, rfl, rfl⟩ := hrel
                        by_cases hlt : i < hn2
                        · obtain ⟨f1, f2, f3, f4, f5, f6⟩ := hI i hlt
                          obtain ⟨bg, og, Bi, mi, di, hgA, hbg, hcg, rBi, _, _⟩ := hrM.at_ i hlt
                          obtain ⟨bR, oR, hRA, hbR, hcR⟩ := rR11.open_ (by omega)
                          obtain ⟨bH, oH, hHA, hbH, hcH⟩ := rH11.open_ (by omega)
                          have hR := hcR i hlt
                          have hH := hcH i hlt
                          rw [List.getD_eq_getElem?_getD] at hR hH
                          rw [f1] at hR
                          subst hgA hRA hHA
                          have hmi : J = mi := by rw [← f4]; exact rBi.len
                          subst hmi
                          have hiI : (i : Int) < hn2 := by omega
                          clear hcR hcH hI f1 f4
                          generalize MV[i]?.getD 0 = mv at *
                          have rB : RdI wr Bi J (rowOf G i) := rBi
                          clear rBi
                          have hrl := rB.len
                          have hb1 := loTo_bd f6 J (by omega)
                          have hb2 := hiTo_bd f6 J (by omega)
                          have Hrl := Lib.hid hrl
                          clear hrl
                          generalize rowOf G i = row at *
                          go_wp2
                          go_loopw [50, 51, 53, 331] (fun lo hi _ kx wq => ∃ k : Nat, k ≤ J ∧ kx = .int .i64 k ∧ lo = .int .i64 (loTo row k) ∧ hi = .int .i64 (hiTo row k) ∧ wq = wr) (fun _ _ _ kx _ => J - (intOf kx).toNat)
                          case atStart => exact ⟨0, by omega, rfl, rfl, rfl, rfl⟩
                          case round =>
                            exact Nonempty.elim (α := type_of% ?k4) (letI i : Nonempty (type_of% ?k4) := ⟨by
                              obtain ⟨k, hk, rfl, rfl, rfl, rfl⟩ := hrel
                              by_cases hlk : k < J
                              · obtain ⟨b, off, rfl, hb0, hc⟩ := rB.open_ (by omega)
                                have hck := hc k hlk
                                rw [List.getD_eq_getElem?_getD] at hck
                                have HL : Hid (loTo row (k + 1) = if row[k]?.getD 0 < loTo row k then row[k]?.getD 0 else loTo row k) := rfl
                                have HH : Hid (hiTo row (k + 1) = if hiTo row k < row[k]?.getD 0 then row[k]?.getD 0 else hiTo row k) := rfl
                                have hkI : (k : Int) < J := by omega
                                clear hc
                                generalize row[k]?.getD 0 = x at *
                                generalize loTo row k = lo at *
                                generalize hiTo row k = hi at *
                                by_cases c1 : x < lo
                                · have HL1 : Hid (loTo row (k + 1) = x) := by have := HL.out; rw [if_pos c1] at this; exact this
                                  by_cases c2 : hi < x
                                  · have HH1 : Hid (hiTo row (k + 1) = x) := by have := HH.out; rw [if_pos c2] at this; exact this
                                    clear HL HH
                                    go_wp2
                                    go_roundw
                                    case rel => exact ⟨k + 1, by omega, by go_num, by rw [HL1.out], by rw [HH1.out], by first | rfl | trivial⟩
                                    case measure => simp [intOf]; omega
                                  · have HH1 : Hid (hiTo row (k + 1) = hi) := by have := HH.out; rw [if_neg c2] at this; exact this
                                    clear HL HH
                                    go_wp2
                                    go_roundw
                                    case rel => exact ⟨k + 1, by omega, by go_num, by rw [HL1.out], by rw [HH1.out], by first | rfl | trivial⟩
                                    case measure => simp [intOf]; omega
                                · have HL1 : Hid (loTo row (k + 1) = lo) := by have := HL.out; rw [if_neg c1] at this; exact this
                                  by_cases c2 : hi < x
                                  · have HH1 : Hid (hiTo row (k + 1) = x) := by have := HH.out; rw [if_pos c2] at this; exact this
                                    clear HL HH
                                    go_wp2
                                    go_roundw
                                    case rel => exact ⟨k + 1, by omega, by go_num, by rw [HL1.out], by rw [HH1.out], by first | rfl | trivial⟩
                                    case measure => simp [intOf]; omega
                                  · have HH1 : Hid (hiTo row (k + 1) = hi) := by have := HH.out; rw [if_neg c2] at this; exact this
                                    clear HL HH
                                    go_wp2
                                    go_roundw
                                    case rel => exact ⟨k + 1, by omega, by go_num, by rw [HL1.out], by rw [HH1.out], by first | rfl | trivial⟩
                                    case measure => simp [intOf]; omega
                              · have Hk := Lib.hid (show k = J by omega)
                                have e1 : loTo row k = loTo row J := by rw [Hk.out]
                                have e2 : hiTo row k = hiTo row J := by rw [Hk.out]
                                rw [e1, e2]
                                clear e1 e2
                                generalize loTo row J = lo at *
                                generalize hiTo row J = hi at *
                                have g1 : decide (mv < 2 * lo) = false := decide_eq_false (by omega)
                                have g2 : decide (2 * hi < mv) = false := decide_eq_false (by omega)
                                go_wp2
                                go_roundw
                                case rel => exact ⟨i + 1, by omega, by go_num, by first | rfl | trivial⟩
                                case measure => simp [intOf]; omega
                              ⟩; by exact inferInstanceAs (Nonempty _)) (fun h => h)
                        · go_wp2
                          go_meet
                          exact Below.refl _ _
                        ⟩; by exact inferInstanceAs (Nonempty _)) (fun h => h)
                  ⟩; by exact inferInstanceAs (Nonempty _)) (fun h => h)
              case rest =>
                exact Nonempty.elim (α := type_of% ?k8) (letI i : Nonempty (type_of% ?k8) := ⟨by
                  have bz := hcut
                  clear hcut HI
                  rename World => w12
                  have BW12 := BW11.trans (bz.mono BW11.size)
                  have hp12 := heap_old hp11 bz
                  have rM12 := rM11.below bz
                  have hsz := dev_size G K ju
                  have hmk : judgeB G K ju = true → marksB G K = true := fun h => (judgeB_of h).1
                  clear hp11 rR11 rH11 rM11 BW11 bz
                  generalize hjb : judgeB G K ju = ok at *
                  cases ok
                  · go_wp2
                    go_ret
                    exact ⟨rfl, BW12⟩
                  · have hM := hmk rfl
                    clear hmk hjb
                    generalize dvB G K ju = size at *
                    have HD := Lib.hid (fun (k : Nat) (hk : k < judgesN K) => dev_loop (gg := G) (kk := K) hM hk)
                    have HB := Lib.hid (fun (k : Nat) (hk : k ≤ judgesN K) => devS_bd (gg := G) (kk := K) hM hk)
                    have HA := Lib.hid (dev_all hM)
                    have hJ9 := (marksB_of hM).2.2.1
                    have cj := fun W (h : Below w12.heap.size w12 W) => specJudgesOf_any W A B n m c d G K (rM12.below h) hM
                    obtain ⟨⟨q0, q1⟩, q2, q3⟩ := blk2 hp12
                    have hpm : pm < w12.heap.size := (Array.getElem?_eq_some_iff.1 hp12).1
                    go_wp2_with ((go_at_call 21; ((with_reducible refine (cj _ (Below.refl _ _)).mono ?_); rintro e w' ⟨rfl, y1, rfl⟩)))
                    have hW := ext_below w12 y1
                    have hp13 := heap_old hp12 hW
                    have rM13 := rM12.below hW
                    have BW13 := BW12.trans (hW.mono BW12.size)
                    clear cj hp12 rM12 BW12 q0 q1 q2 q3 hpm hW
                    generalize ext w12 y1 = w13 at *
                    generalize judgesN K = J at *
                    go_loopw [56, 57, 58, 59, 60] (fun all kx _ _ _ wr => ∃ j : Nat, j ≤ J ∧ kx = .int .i64 j ∧ all = .int .i64 (sumUp (fun k => devU G (k : Nat) G.length) j) ∧ Below w13.heap.size w13 wr) (fun _ kx _ _ _ _ => J - (intOf kx).toNat)
                    case atStart => exact ⟨0, by omega, rfl, rfl, Below.refl _ _⟩
                    case round =>
                      exact Nonempty.elim (α := type_of% ?k7) (letI i : Nonempty (type_of% ?k7) := ⟨by
                        obtain ⟨j, hj, rfl, rfl, hbl⟩ := hrel
                        by_cases hlt : j < J
                        · obtain ⟨h1, h2, h3⟩ := HD.out j hlt
                          have hb1 := HB.out j (by omega)
                          have hb2 := HB.out (j + 1) (by omega)
                          have hp14 := heap_old hp13 hbl
                          obtain ⟨⟨q0, q1⟩, q2, q3⟩ := blk2 hp14
                          have hpm : pm < wr.heap.size := (Array.getElem?_eq_some_iff.1 hp14).1
                          have e1 := implDeviationOf_any wr A B n m c d G K (rM13.below hbl) (j : Nat)
                          rw [h1] at e1
                          have hjI : (j : Int) < J := by omega
                          have HS := Lib.hid h3
                          rw [h3] at hb2
                          clear h1 h3 HD HB HA hp13 hp14 rM13
                          generalize sumUp (fun k => devU G (k : Nat) G.length) j = S at *
                          generalize dvA G K (j : Nat) = ow at *
                          generalize dvB G K (j : Nat) = ba at *
                          have cq := fun W => qAbs_any ow W (by omega) (by omega)
                          have hg : decide (ba < absM ow) = false := decide_eq_false (by omega)
                          generalize absM ow = ab at *
                          go_wp2_with (first | (go_at_call 5; ((with_reducible refine (e1).mono ?_); rintro e w' ⟨rfl, y2, rfl⟩)) | (go_at_call 22; ((with_reducible refine (cq _).mono ?_); rintro e w' ⟨rfl, rfl⟩)))
                          go_roundw
                          case rel => exact ⟨j + 1, by omega, by go_num, by rw [HS.out], by repeat (first | exact Below.refl _ _ | assumption | refine bExt ?_ _ | refine bAlloc ?_ _ | refine bDrewN ?_ _ | refine bDrew ?_ | refine bSet ?_ (by first | exact Nat.le_refl _ | omega | (simp; done) | (simp; omega)) _)⟩
                          case measure => simp [intOf]; omega
                        · have Hj := Lib.hid (show sumUp (fun k => devU G (k : Nat) G.length) j = 0 by rw [show j = J by omega]; exact HA.out)
                          rw [Hj.out]
                          have hg : decide ((0 : Int) ≤ size) = true := decide_eq_true hsz
                          clear HD HB HA
                          go_wp2
                          go_ret
                          exact ⟨by first | rfl | exact ret_bool (by simp [hsz]), BW13.trans (hbl.mono BW13.size)⟩
                        ⟩; by exact inferInstanceAs (Nonempty _)) (fun h => h)
                  ⟩; by exact inferInstanceAs (Nonempty _)) (fun h => h)
              ⟩; by exact inferInstanceAs (Nonempty _)) (fun h => h)
          ⟩; by exact inferInstanceAs (Nonempty _)) (fun h => h)
      ⟩; by exact inferInstanceAs (Nonempty _)) (fun h => h)
set_option maxRecDepth 100000 in
theorem fnDeviations_lifted (os : Os) (started : os.Started) (H : Type) (enc : TypeId × Value → H) :
    ReturnsInHanded {} Try.checked os 3 .any (Rows.fnDeviationsSpec.pre6 enc Try.prog Try.f3 Rows.fnDeviationsRow.domain false) (Rows.fnDeviationsSpec.post enc Try.prog Try.f3 false true false false) := by
  refine returnsInHanded_of_change (C := Try.checked) ownKnobNone started (by kernel_rfl) Try.func3
    (ChangeSpec.witness6 (enc := enc) (C := Try.checked) false ⟨#[], #[.slice none 0 0, .slice none 0 0], []⟩ 8 (by kernel_rfl) (by kernel_rfl) (by kernel_rfl) (by kernel_rfl)) ?_
  intro W base args ds gs before hval0 hW hcnd _
  have hval : ∀ (j : Nat) t v, Try.f3.params[j]? = some t → args[j]? = some v → Value.okWide Try.prog W .any base t v := hval0
  have hW' := hW
  obtain ⟨p, q, hA0, hV, rfl, hfz, hnd⟩ := hW
  have hA : DataW.TrodAll enc Try.prog W 0 (fun _ => true) true Try.f3.params.toList args.toList ds p := hA0
  have hAk := hA
  rw [Try.params3] at hA hval
  obtain ⟨v0, vs0, d0, ds0, p0, q0, hargs, rfl, rfl, h0, r0⟩ := trodAll_cons hA
  obtain ⟨v1, vs1, d1, ds1, p1, q1, rfl, rfl, rfl, h1, r1⟩ := trodAll_cons r0
  obtain ⟨rfl, rfl, rfl⟩ := trodAll_nil r1
  obtain rfl : args = #[v0, v1] := by cases args; simp_all
  obtain ⟨rfl, rfl⟩ := trodVars_none hV
  obtain ⟨A0, n0, c0, l0, rfl, g0, nc0, cm0⟩ := open_RdY (hval 0 22 v0 rfl rfl) h0
  obtain ⟨A1, n1, c1, l1, rfl, g1, nc1, cm1⟩ := open_RdY (hval 1 22 v1 rfl rfl) h1
  refine (law_Deviations _ _ _ _ _ g0 (by simp only [maxLen] at cm0; omega) _ _ _ _ g1 (by simp only [maxLen] at cm1; omega)).mono fun e W' hh => ?_
  obtain ⟨he, bel⟩ := hh
  subst he
  exact ⟨_, rfl, _, _, _, [], _, [], hW', trodAll_mk1 (shut_bool Try.underlying4 _), trodAll_below laidOutAll bel _ _ _ _ (by rw [tsOk, Try.params3]; kernel_rfl) hAk, rfl, bel.frame _, fun h => by cases h⟩
theorem fnDeviations_holds : Rows.FnDeviationsSaid :=
  OpenClaim.holds_of_wide 3 Try.f3 rfl rfl rfl rfl rfl rfl rfl ⟨rfl, rfl, rfl, rfl, rfl⟩ rfl rfl rfl rfl rfl (by kernel_rfl) Try.func3 (by kernel_rfl)
    (of_decide_eq_true (by kernel_rfl)) (by unfold Func.isWrapper; first | (rw [if_pos (by decide +kernel)]; kernel_rfl) | (rw [if_neg (by decide +kernel)]; exact ⟨rfl, rfl⟩))
    (fun os started H enc _ => fnDeviations_lifted os started H enc)
end Go.Proofs.Ytpjaiihkgeabiaa
