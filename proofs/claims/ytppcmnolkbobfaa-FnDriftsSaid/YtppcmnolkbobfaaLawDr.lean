/- The law FnDrifts returns true for every input. Conditions: none. -/
import Derived.Test.YtppcmnolkbobfaaDraw5
import Derived.Test.YtppcmnolkbobfaaDriftB
import Derived.Test.YtppcmnolkbobfaaLiftByte
import Derived.Test.YtppcmnolkbobfaaLawKit
import Derived.Deep.RegionHeld3
import Derived.Deep.DeepCutAuto
set_option linter.unusedVariables false
set_option linter.unusedSimpArgs false
set_option maxRecDepth 100000
namespace Go.Proofs.Ytppcmnolkbobfaa
open Go.ChangeShapes Go.WideShapes Go.ChangeAt Go.RowKit
set_option maxHeartbeats 400000 in
theorem qSum_any (w : World) (A : Option Addr) (n c : Nat) (l : List Int) (ha : RdI w A n l) (hn : n ≤ 1000) (hb : ∀ x ∈ l, -100000 ≤ x ∧ x ≤ 100000) :
    Calls Try.prog 20 #[.slice A n c] w fun e w' => e = .returned (.int .i64 (sumTo l n)) ∧ w = w' := by
  have Hl := Lib.hid ha.len
  go_enter Try.func20, Try.ntmps20
  go_wp2
  go_loop [3, 5, 8] (fun t _ i => ∃ k : Nat, k ≤ n ∧ i = .int .i64 k ∧ t = .int .i64 (sumTo l k)) (fun _ _ i => n - (intOf i).toNat)
  case atStart => exact ⟨0, by omega, rfl, rfl⟩
  case round =>
    obtain ⟨k, hk, rfl, rfl⟩ := hrel
    by_cases hlt : k < n
    · obtain ⟨b, off, rfl, hb0, hc⟩ := ha.open_ (by omega)
      have hck := hc k hlt
      rw [List.getD_eq_getElem?_getD] at hck
      have h1 := sumTo_bd (by omega) hb k
      have h2 := hb _ (getD_mem 0 l k (by rw [Hl.out]; exact hlt))
      have HS := Lib.hid (sumTo_succ l k (by rw [Hl.out]; exact hlt))
      clear hc
      generalize l[k]?.getD 0 = x at *
      generalize sumTo l k = s at *
      go_wp2
      go_round
      case rel => exact ⟨k + 1, by omega, by go_num, by rw [HS.out]⟩
      case measure => simp [intOf]; omega
    · have hkn := Lib.hid (show k = n by omega)
      go_wp2
      go_ret
      exact ⟨ret_int (by rw [hkn.out]), rfl⟩
set_option maxHeartbeats 4000000 in
theorem law_Drifts (w : World) (A0 : Option Addr) (n0 c0 : Nat) (l0 : List Int) (ha0 : RdY w A0 n0 l0) (hm0 : n0 ≤ 9223372036854775807) (A1 : Option Addr) (n1 c1 : Nat) (l1 : List Int) (ha1 : RdY w A1 n1 l1) (hm1 : n1 ≤ 9223372036854775807) :
    Calls Try.prog 3 #[.slice A0 n0 c0, .slice A1 n1 c1] w fun e w' => e = .returned (.bool true) ∧ Below w.heap.size w w' := by
  by_cases hs : (1048576 : Int) < wrap64 (n0 + n1)
  · go_enter Try.func3, Try.ntmps3
    go_wp2_with fail
    go_ret
    exact ⟨rfl, by repeat (first | exact Below.refl _ _ | assumption | refine bExt ?_ _ | refine bAlloc ?_ _ | refine bDrewN ?_ _ | refine bDrew ?_ | refine bSet ?_ (by first | exact Nat.le_refl _ | omega | (simp; done) | (simp; omega)) _)⟩
  have hsd : decide ((1048576 : Int) < wrap64 (n0 + n1)) = false := decide_eq_false hs
  go_enter Try.func3, Try.ntmps3
  go_wp2_with fail
  refine (drawFirstDrift_any _ _ _ _ _ ha0 hm0).mono ?_
  rintro e w1 ⟨A, n, c, l, lim, x1, rfl, hn, rfl, o1⟩
  go_wp2_with fail
  refine (implFirstDrift_any _ _ _ _ _ lim (o1.rd.below (by repeat (first | exact Below.refl _ _ | assumption | refine bExt ?_ _ | refine bAlloc ?_ _ | refine bDrewN ?_ _ | refine bDrew ?_ | refine bSet ?_ (by first | exact Nat.le_refl _ | omega | (simp; done) | (simp; omega)) _))) (by omega)).mono ?_
  rintro e w1 ⟨rfl, x2, rfl⟩
  go_wp2_with fail
  refine (specFirstDrift_any _ _ _ _ _ lim (o1.rd.below (by repeat (first | exact Below.refl _ _ | assumption | refine bExt ?_ _ | refine bAlloc ?_ _ | refine bDrewN ?_ _ | refine bDrew ?_ | refine bSet ?_ (by first | exact Nat.le_refl _ | omega | (simp; done) | (simp; omega)) _))) (by omega)).mono ?_
  rintro e w1 ⟨rfl, x3, rfl⟩
  go_wp2_with fail
  refine (implGreatestDrift_any _ _ _ _ _ (o1.rd.below (by repeat (first | exact Below.refl _ _ | assumption | refine bExt ?_ _ | refine bAlloc ?_ _ | refine bDrewN ?_ _ | refine bDrew ?_ | refine bSet ?_ (by first | exact Nat.le_refl _ | omega | (simp; done) | (simp; omega)) _))) (by omega)).mono ?_
  rintro e w1 ⟨rfl, x4, rfl⟩
  go_wp2_with fail
  refine (specGreatestDrift_any _ _ _ _ _ (o1.rd.below (by repeat (first | exact Below.refl _ _ | assumption | refine bExt ?_ _ | refine bAlloc ?_ _ | refine bDrewN ?_ _ | refine bDrew ?_ | refine bSet ?_ (by first | exact Nat.le_refl _ | omega | (simp; done) | (simp; omega)) _))) (by omega)).mono ?_
  rintro e w1 ⟨rfl, x5, rfl⟩
  go_wp2_with fail
  refine (drawBiasOf_any _ _ _ _ _ (ha1.below (by repeat (first | exact Below.refl _ _ | assumption | refine bExt ?_ _ | refine bAlloc ?_ _ | refine bDrewN ?_ _ | refine bDrew ?_ | refine bSet ?_ (by first | exact Nat.le_refl _ | omega | (simp; done) | (simp; omega)) _))) hm1).mono ?_
  rintro e w1 ⟨B, m, d, r, C, q, f, s, x6, rfl, ⟨hm, hq⟩, rfl, o2, o3⟩
  go_wp2_with fail
  refine (implBiasOf_any _ _ _ _ _ _ _ _ _ (o2.rd.below (by repeat (first | exact Below.refl _ _ | assumption | refine bExt ?_ _ | refine bAlloc ?_ _ | refine bDrewN ?_ _ | refine bDrew ?_ | refine bSet ?_ (by first | exact Nat.le_refl _ | omega | (simp; done) | (simp; omega)) _))) (o3.rd.below (by repeat (first | exact Below.refl _ _ | assumption | refine bExt ?_ _ | refine bAlloc ?_ _ | refine bDrewN ?_ _ | refine bDrew ?_ | refine bSet ?_ (by first | exact Nat.le_refl _ | omega | (simp; done) | (simp; omega)) _))) (by omega) (by omega)).mono ?_
  rintro e w1 ⟨rfl, x7, rfl⟩
  go_wp2_with fail
  refine (specBiasOf_any _ _ _ _ _ _ _ _ _ (o2.rd.below (by repeat (first | exact Below.refl _ _ | assumption | refine bExt ?_ _ | refine bAlloc ?_ _ | refine bDrewN ?_ _ | refine bDrew ?_ | refine bSet ?_ (by first | exact Nat.le_refl _ | omega | (simp; done) | (simp; omega)) _))) (o3.rd.below (by repeat (first | exact Below.refl _ _ | assumption | refine bExt ?_ _ | refine bAlloc ?_ _ | refine bDrewN ?_ _ | refine bDrew ?_ | refine bSet ?_ (by first | exact Nat.le_refl _ | omega | (simp; done) | (simp; omega)) _))) (by omega) (by omega)).mono ?_
  rintro e w1 ⟨rfl, x8, rfl⟩
  go_wp2_with fail
  refine (drawSlopeOf_any _ _ _ _ _ (ha1.below (by repeat (first | exact Below.refl _ _ | assumption | refine bExt ?_ _ | refine bAlloc ?_ _ | refine bDrewN ?_ _ | refine bDrew ?_ | refine bSet ?_ (by first | exact Nat.le_refl _ | omega | (simp; done) | (simp; omega)) _))) hm1).mono ?_
  rintro e w1 ⟨D, p, g, t, x9, rfl, hp, rfl, o4⟩
  go_wp2_with fail
  refine (implSlopeOf_any _ _ _ _ _ (o4.rd.below (by repeat (first | exact Below.refl _ _ | assumption | refine bExt ?_ _ | refine bAlloc ?_ _ | refine bDrewN ?_ _ | refine bDrew ?_ | refine bSet ?_ (by first | exact Nat.le_refl _ | omega | (simp; done) | (simp; omega)) _))) (by omega)).mono ?_
  rintro e w1 ⟨rfl, x10, rfl⟩
  go_wp2_with fail
  refine (specSlopeOf_any _ _ _ _ _ (o4.rd.below (by repeat (first | exact Below.refl _ _ | assumption | refine bExt ?_ _ | refine bAlloc ?_ _ | refine bDrewN ?_ _ | refine bDrew ?_ | refine bSet ?_ (by first | exact Nat.le_refl _ | omega | (simp; done) | (simp; omega)) _))) (by omega)).mono ?_
  rintro e w1 ⟨rfl, x11, hw1⟩
  have bW : Below w.heap.size w w1 := by rw [hw1]; repeat (first | exact Below.refl _ _ | assumption | refine bExt ?_ _ | refine bAlloc ?_ _ | refine bDrewN ?_ _ | refine bDrew ?_ | refine bSet ?_ (by first | exact Nat.le_refl _ | omega | (simp; done) | (simp; omega)) _)
  have r1 : RdI w1 A n l := o1.rd.below (by rw [hw1]; repeat (first | exact Below.refl _ _ | assumption | refine bExt ?_ _ | refine bAlloc ?_ _ | refine bDrewN ?_ _ | refine bDrew ?_ | refine bSet ?_ (by first | exact Nat.le_refl _ | omega | (simp; done) | (simp; omega)) _))
  have r2 : RdI w1 B m r := o2.rd.below (by rw [hw1]; repeat (first | exact Below.refl _ _ | assumption | refine bExt ?_ _ | refine bAlloc ?_ _ | refine bDrewN ?_ _ | refine bDrew ?_ | refine bSet ?_ (by first | exact Nat.le_refl _ | omega | (simp; done) | (simp; omega)) _))
  have r3 : RdI w1 C q s := o3.rd.below (by rw [hw1]; repeat (first | exact Below.refl _ _ | assumption | refine bExt ?_ _ | refine bAlloc ?_ _ | refine bDrewN ?_ _ | refine bDrew ?_ | refine bSet ?_ (by first | exact Nat.le_refl _ | omega | (simp; done) | (simp; omega)) _))
  have r4 : RdI w1 D p t := o4.rd.below (by rw [hw1]; repeat (first | exact Below.refl _ _ | assumption | refine bExt ?_ _ | refine bAlloc ?_ _ | refine bDrewN ?_ _ | refine bDrew ?_ | refine bSet ?_ (by first | exact Nat.le_refl _ | omega | (simp; done) | (simp; omega)) _))
  have cA := o1.cap_
  clear hw1 o1 o2 o3 o4 ha0 ha1 hs
  have hlr := r2.len
  have hls := r3.len
  have hlt := r4.len
  have hb : biasOk r s = true → _ := fun h => And.intro (@bias_back r s h) (And.intro (@bias_bd r s h) (by simp only [biasOk, Bool.and_eq_true] at h; exact (And.intro (serB_of h.1) (serB_of h.2))))
  have hsl : slOk t = true → _ := fun h => And.intro (@sl_steeper t h) (And.intro (@sl_bd t h) (by simp only [slOk, Bool.and_eq_true] at h; exact serB_of h.1))
  have hFD := @fd_yes l lim
  have hFM := @fd_most l lim
  rw [hlr, hls] at hb
  rw [hlt] at hsl
  clear hlr hls hlt
  generalize fdK l lim = ok at *
  generalize fdV l lim = fv at *
  generalize hgv : gdV l = gv at *
  generalize hsb : serB l = one at *
  generalize biasA r s = top at *
  generalize biasB r s = bot at *
  generalize biasOk r s = three at *
  generalize slA t = rise at *
  generalize slB t = run at *
  generalize slOk t = five at *
  have HFD := Lib.hid hFD
  have HFM := Lib.hid hFM
  have HB := Lib.hid hb
  have HSL := Lib.hid hsl
  have Hgv := Lib.hid hgv
  have Hsb := Lib.hid hsb
  clear hFD hFM hb hsl hgv hsb
  go_upto_region 14 with fail
  go_cut [162] (fun v wx => v = .bool false ∧ w1 = wx)
  case first => as_aux_lemma =>
    cases ok
    · go_wp2
      go_meet
      exact ⟨rfl, rfl⟩
    · obtain ⟨rfl, _⟩ := HFD.out rfl
      go_wp2
      go_meet
      exact ⟨rfl, rfl⟩
  case rest => as_aux_lemma =>
    obtain ⟨rfl, rfl⟩ := hcut
    go_upto_region 16 with fail
    go_cut [178] (fun v wx => v = .bool false ∧ w1 = wx)
    case first => as_aux_lemma =>
      cases ok
      · cases one
        · go_wp2
          go_meet
          exact ⟨rfl, rfl⟩
        · by_cases h0 : 0 ≤ lim
          · by_cases h1 : lim ≤ 1000000
            · have h3 : ¬ lim < gv := by have := HFM.out rfl h0 h1; simpa using this.symm
              go_wp2
              go_meet
              exact ⟨rfl, rfl⟩
            · go_wp2
              go_meet
              exact ⟨rfl, rfl⟩
          · go_wp2
            go_meet
            exact ⟨rfl, rfl⟩
      · obtain ⟨rfl, ⟨h0, h1⟩, _⟩ := HFD.out rfl
        have h3 : lim < gv := by have := HFM.out rfl h0 h1; simpa using this.symm
        go_wp2
        go_meet
        exact ⟨rfl, rfl⟩
    case rest => as_aux_lemma =>
      obtain ⟨rfl, rfl⟩ := hcut
      go_upto_if 179 with fail
      go_cut [] (fun wx => Below w1.heap.size w1 wx)
      case first => as_aux_lemma =>
        cases ok
        · go_wp2
          go_meet
          exact Below.refl _ _
        · obtain ⟨rfl, ⟨h0, h1⟩, f, rfl, hf, hd, hbe⟩ := HFD.out rfl
          have hP := gd_prefix Hsb.out hf hd
          have hfn : f < n := by have := r1.len; omega
          have cg := implGreatestDrift_any w1 A (f + 1) c (l.take (f + 1)) (r1.take_ _ (by omega)) (by omega)
          rw [hP.1] at cg
          have hP2 := hP.2
          clear hP
          generalize gdV (l.take (f + 1)) = gu at *
          by_cases hf0 : 0 < f
          · have hQ := gd_before Hsb.out h0 hf hf0 hbe
            have hQ2 := hQ.2
            have cb := fun W (h : Below w1.heap.size w1 W) => implGreatestDrift_any W A f c (l.take f) ((r1.take_ _ (by omega)).below h) (by omega)
            rw [hQ.1] at cb
            clear hQ hbe hd hf
            generalize gdV (l.take f) = gb at *
            have hcI : (f : Int) + 1 ≤ c := by omega
            go_wp2_with (first | (go_at_call 12; ((with_reducible refine (cg).mono ?_); rintro e w' ⟨rfl, z1, rfl⟩)) | (go_at_call 12; ((with_reducible refine (cb _ (ext_below _ _)).mono ?_); rintro e w' ⟨rfl, z2, rfl⟩)))
            go_meet
            exact (by repeat (first | exact Below.refl _ _ | assumption | refine bExt ?_ _ | refine bAlloc ?_ _ | refine bDrewN ?_ _ | refine bDrew ?_ | refine bSet ?_ (by first | exact Nat.le_refl _ | omega | (simp; done) | (simp; omega)) _))
          · obtain rfl : f = 0 := by omega
            clear hbe hd hf
            have hcI : (1 : Int) ≤ c := by omega
            go_wp2_with (first | (go_at_call 12; ((with_reducible refine (cg).mono ?_); rintro e w' ⟨rfl, z1, rfl⟩)))
            go_meet
            exact (by repeat (first | exact Below.refl _ _ | assumption | refine bExt ?_ _ | refine bAlloc ?_ _ | refine bDrewN ?_ _ | refine bDrew ?_ | refine bSet ?_ (by first | exact Nat.le_refl _ | omega | (simp; done) | (simp; omega)) _))
      case rest => as_aux_lemma =>
        go_upto_if 211 with fail
        go_cut [] (fun wx => Below w1.heap.size w1 wx)
        case first => as_aux_lemma =>
          cases three
          · go_wp2
            go_meet
            exact hcut
          · obtain ⟨⟨hk, ha', hb', h1, hid⟩, ⟨⟨t1, t2⟩, _, t3⟩, ⟨⟨p1, p2⟩, p3⟩, ⟨q1, q2⟩, q3⟩ := HB.out rfl
            have cq1 := fun W (h : Below w1.heap.size w1 W) => qSum_any W B m d r (r2.below h) (by omega) p3
            have cq2 := fun W (h : Below w1.heap.size w1 W) => qSum_any W C q f s (r3.below h) (by omega) q3
            have b1 := sumTo_bd (by omega) p3 m
            have b2 := sumTo_bd (by omega) q3 q
            have ct := implBiasOf_any _ C B q m f d s r (r3.below hcut) (r2.below hcut) (by omega) (by omega)
            rw [hk, ha', hb'] at ct
            clear hk ha' hb' p3 q3
            generalize sumTo r m = su1 at *
            generalize sumTo s q = su2 at *
            have m1 := mul_bd (a := top) (b := m) (A := 720000000) (B := 60) (by omega) (by omega) (by omega) (by omega)
            have m2 := mul_bd (a := top * m) (b := q) (A := 43200000000) (B := 60) (by omega) (by omega) (by omega) (by omega)
            have m3 := mul_bd (a := su1) (b := q) (A := 6000000) (B := 60) (by omega) (by omega) (by omega) (by omega)
            have m4 := mul_bd (a := su2) (b := m) (A := 6000000) (B := 60) (by omega) (by omega) (by omega) (by omega)
            have m5 := mul_bdR (a := su1 * q - su2 * m) (b := bot) (A := 720000000) (B := 3600) (by omega) (by omega) (by omega) (by omega)
            go_wp2_with (first | (go_at_call 15; ((with_reducible refine (ct).mono ?_); rintro e w' ⟨rfl, z1, rfl⟩)) | (go_at_call 20; ((with_reducible refine (cq1 _ (by repeat (first | exact Below.refl _ _ | assumption | refine bExt ?_ _ | refine bAlloc ?_ _ | refine bDrewN ?_ _ | refine bDrew ?_ | refine bSet ?_ (by first | exact Nat.le_refl _ | omega | (simp; done) | (simp; omega)) _))).mono ?_); rintro e w' ⟨rfl, rfl⟩)) | (go_at_call 20; ((with_reducible refine (cq2 _ (by repeat (first | exact Below.refl _ _ | assumption | refine bExt ?_ _ | refine bAlloc ?_ _ | refine bDrewN ?_ _ | refine bDrew ?_ | refine bSet ?_ (by first | exact Nat.le_refl _ | omega | (simp; done) | (simp; omega)) _))).mono ?_); rintro e w' ⟨rfl, rfl⟩)))
            go_meet
            exact (by repeat (first | exact Below.refl _ _ | assumption | refine bExt ?_ _ | refine bAlloc ?_ _ | refine bDrewN ?_ _ | refine bDrew ?_ | refine bSet ?_ (by first | exact Nat.le_refl _ | omega | (simp; done) | (simp; omega)) _))
        case rest => as_aux_lemma =>
          clear HB HFD HFM
          cases five
          · go_wp2
            go_ret
            exact ⟨rfl, bW.trans (hcut.mono bW.size)⟩
          · obtain ⟨hst, ⟨⟨u1, u2⟩, u3, u4⟩, ⟨p1, p2⟩, p3⟩ := HSL.out rfl
            have hg := getD_bd p3
            have r5 := r4.below hcut
            have ot := r4.len
            have o0 := OwI.lit_ (Below.refl wc.heap.size wc) [] (by simp [maxLen]) #[] rfl
            have hn0 : 0 + p ≤ 1099511627776 := by omega
            go_wp2_with (at_builtin; (refine wpl_app_int wc rfl _ _ rfl (some ⟨wc.heap.size, 0, none⟩) 0 0 [] rfl o0 ?_ ?_ D p g t rfl r5 ?_ hn0 ?_); (focus (repeat (first | exact Below.refl _ _ | assumption | refine bExt ?_ _ | refine bAlloc ?_ _ | refine bDrewN ?_ _ | refine bDrew ?_ | refine bSet ?_ (by first | exact Nat.le_refl _ | omega | (simp; done) | (simp; omega)) _))); (focus (repeat (first | exact Below.refl _ _ | assumption | refine bExt ?_ _ | refine bAlloc ?_ _ | refine bDrewN ?_ _ | refine bDrew ?_ | refine bSet ?_ (by first | exact Nat.le_refl _ | omega | (simp; done) | (simp; omega)) _))); (focus (repeat (first | exact Below.refl _ _ | assumption | refine bExt ?_ _ | refine bAlloc ?_ _ | refine bDrewN ?_ _ | refine bDrew ?_ | refine bSet ?_ (by first | exact Nat.le_refl _ | omega | (simp; done) | (simp; omega)) _))); intro A' c' y2 ho hgx hdx)
            have ho' : OwI wc.heap.size (ext wc y2) A' p c' t := by simpa using ho
            clear ho hgx hdx hn0 o0
            obtain ⟨gg, rfl, hgg1, hgg2⟩ := ho'.form_ (by omega)
            go_loopw [38, 265] (fun _ i wr => ∃ k : Nat, k ≤ p ∧ i = .int .i64 k ∧ OwI wc.heap.size wr (some ⟨gg, 0, none⟩) p c' (stp t k) ∧ Below wc.heap.size wc wr ∧ ∀ j : Nat, j < k → t[j]?.getD 0 + j ≤ 100000) (fun _ i _ => p - (intOf i).toNat)
            case atStart => exact ⟨0, by omega, rfl, by rw [stp_zero]; exact ho', ext_below _ _, fun j h => absurd h (by omega)⟩
            case round => as_aux_lemma =>
              obtain ⟨k, hk, rfl, hO, hbl, hbd⟩ := hrel
              have hall := bW.trans ((hcut.trans (hbl.mono hcut.size)).mono bW.size)
              by_cases hlt : k < p
              · have hc := hO.cell_ k hlt
                have hf := hO.frozen_ k
                have hx := hg k
                have hstp := stp_step t k (by omega)
                rw [stp_get t k k (by omega), if_neg (Nat.lt_irrefl k), Int.add_zero] at hc hstp
                have s1 := hO.stored_ k (t[k]?.getD 0 + k)
                rw [hstp] at s1
                have S1 := Lib.hid s1
                have hbd' : t[k]?.getD 0 + k ≤ 100000 → ∀ j : Nat, j < k + 1 → t[j]?.getD 0 + j ≤ 100000 := fun h j hj => by
                  by_cases e : j = k
                  · subst e; exact h
                  · exact hbd j (by omega)
                clear hstp s1 hg
                generalize t[k]?.getD 0 = x at *
                by_cases hx1 : 100000 < x + k
                · go_wp2
                  go_ret
                  exact ⟨rfl, hall⟩
                · go_wp2
                  go_roundw
                  case rel => exact ⟨k + 1, by omega, by go_num, S1.out.1, bSet hbl hgg1 _, hbd' (by omega)⟩
                  case measure => simp [intOf]; omega
              · have hkp : p = k := by omega
                have cs := implSlopeOf_any _ _ p c' (stp t k) hO.rd (by omega)
                rw [← hkp] at cs hbd
                have hv := hst hbd
                rw [hv.1, hv.2.1, hv.2.2] at cs
                have Hkp := Lib.hid hkp
                clear hkp hv
                go_wp2_with ((go_at_call 18; ((with_reducible refine (cs).mono ?_); rintro e w' ⟨rfl, z3, rfl⟩)))
                go_ret
                exact ⟨rfl, by repeat (first | exact Below.refl _ _ | assumption | refine bExt ?_ _ | refine bAlloc ?_ _ | refine bDrewN ?_ _ | refine bDrew ?_ | refine bSet ?_ (by first | exact Nat.le_refl _ | omega | (simp; done) | (simp; omega)) _)⟩
set_option maxRecDepth 100000 in
theorem fnDrifts_lifted (os : Os) (started : os.Started) (H : Type) (enc : TypeId × Value → H) :
    ReturnsInHanded {} Try.checked os 3 .any (Rows.fnDriftsSpec.pre6 enc Try.prog Try.f3 Rows.fnDriftsRow.domain false) (Rows.fnDriftsSpec.post enc Try.prog Try.f3 false true false false) := by
  refine returnsInHanded_of_change (C := Try.checked) ownKnobNone started (by kernel_rfl) Try.func3
    (ChangeSpec.witness6 (enc := enc) (C := Try.checked) false ⟨#[], #[.slice none 0 0, .slice none 0 0], []⟩ 8 (by kernel_rfl) (by kernel_rfl) (by kernel_rfl) (by kernel_rfl)) ?_
  intro W base args ds gs before hval0 hW hcnd _
  have hval : ∀ (j : Nat) t v, Try.f3.params[j]? = some t → args[j]? = some v → Value.okWide Try.prog W .any base t v := hval0
  have hW' := hW
  obtain ⟨p, q, hA0, hV, rfl, hfz, hnd⟩ := hW
  have hA : DataW.TrodAll enc Try.prog W 0 (fun _ => true) true Try.f3.params.toList args.toList ds p := hA0
  have hAk := hA
  rw [Try.params3] at hA hval
  obtain ⟨v0, vs0, d0, ds0, p0, q0, hargs, rfl, rfl, h0, r0⟩ := trodAll_cons hA
  obtain ⟨v1, vs1, d1, ds1, p1, q1, rfl, rfl, rfl, h1, r1⟩ := trodAll_cons r0
  obtain ⟨rfl, rfl, rfl⟩ := trodAll_nil r1
  obtain rfl : args = #[v0, v1] := by cases args; simp_all
  obtain ⟨rfl, rfl⟩ := trodVars_none hV
  obtain ⟨A0, n0, c0, l0, rfl, g0, nc0, cm0⟩ := open_RdY (hval 0 22 v0 rfl rfl) h0
  obtain ⟨A1, n1, c1, l1, rfl, g1, nc1, cm1⟩ := open_RdY (hval 1 22 v1 rfl rfl) h1
  refine (law_Drifts _ _ _ _ _ g0 (by simp only [maxLen] at cm0; omega) _ _ _ _ g1 (by simp only [maxLen] at cm1; omega)).mono fun e W' hh => ?_
  obtain ⟨he, bel⟩ := hh
  subst he
  exact ⟨_, rfl, _, _, _, [], _, [], hW', trodAll_mk1 (shut_bool Try.underlying4 _), trodAll_below laidOutAll bel _ _ _ _ (by rw [tsOk, Try.params3]; kernel_rfl) hAk, rfl, bel.frame _, fun h => by cases h⟩
theorem fnDrifts_holds : Rows.FnDriftsSaid :=
  OpenClaim.holds_of_wide 3 Try.f3 rfl rfl rfl rfl rfl rfl rfl ⟨rfl, rfl, rfl, rfl, rfl⟩ rfl rfl rfl rfl rfl (by kernel_rfl) Try.func3 (by kernel_rfl)
    (of_decide_eq_true (by kernel_rfl)) (by unfold Func.isWrapper; first | (rw [if_pos (by decide +kernel)]; kernel_rfl) | (rw [if_neg (by decide +kernel)]; exact ⟨rfl, rfl⟩))
    (fun os started H enc _ => fnDrifts_lifted os started H enc)
end Go.Proofs.Ytppcmnolkbobfaa
