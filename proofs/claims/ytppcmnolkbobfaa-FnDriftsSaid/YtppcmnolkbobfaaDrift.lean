/- Contracts of the drifts of a series, in the program and in the reference. Conditions: lengths below 2^40. -/
import Derived.Test.YtppcmnolkbobfaaStats
set_option linter.unusedVariables false
set_option linter.unusedSimpArgs false
set_option maxRecDepth 100000
namespace Go.Proofs.Ytppcmnolkbobfaa
open Go.ChangeShapes Go.WideShapes Go.ChangeAt Go.RowKit
def driftL (l : List Int) (k : Nat) : List Int := (List.range k).map (driftV l)
theorem driftL_succ (l : List Int) (k : Nat) : driftL l (k + 1) = driftL l k ++ [driftV l k] := by simp [driftL, List.range_succ]
theorem driftL_len (l : List Int) (k : Nat) : (driftL l k).length = k := by simp [driftL]
theorem driftL_get (l : List Int) (k j : Nat) (h : j < k) : (driftL l k)[j]?.getD 0 = driftV l j := by simp [driftL, h]
def hiB (l : List Int) : Nat → Int
  | 0 => 0
  | k + 1 => hiAt l k
def loB (l : List Int) : Nat → Int
  | 0 => 0
  | k + 1 => loAt l k
set_option maxHeartbeats 1000000 in
theorem jdDrift_any (w : World) (A : Option Addr) (n c : Nat) (l : List Int) (ha : RdI w A n l) (hn : n ≤ 60) (p3 : ∀ x ∈ l, -100000 ≤ x ∧ x ≤ 100000) :
    Calls Try.prog 99 #[.slice A n c] w (RetI w (driftL l n)) := by
  have hg := getD_bd p3
  go_enter Try.func99, Try.ntmps99
  go_wp2
  go_loopw [3, 4, 5, 6, 7, 10] (fun v a b _ _ i wr => ∃ (k : Nat) (B : Option Addr) (d : Nat) (x : World), k ≤ n ∧ i = .int .i64 k ∧ a = .int .i64 (hiB l k) ∧ b = .int .i64 (loB l k) ∧ v = .slice B k d ∧ wr = ext w x ∧ OwI w.heap.size (ext w x) B k d (driftL l k)) (fun _ _ _ _ _ i _ => n - (intOf i).toNat)
  case atStart => exact ⟨0, none, 0, _, by omega, rfl, rfl, rfl, rfl, ext_self w, OwI.nil_⟩
  case round =>
    obtain ⟨k, B, d, x, hk, rfl, rfl, rfl, rfl, rfl, ho⟩ := hrel
    by_cases hlt : k < n
    · obtain ⟨b, off, rfl, hb, hc⟩ := ha.open_ (by omega)
      have hck := hc k hlt
      rw [List.getD_eq_getElem?_getD] at hck
      have g1 := hg k
      have HD := Lib.hid (drift_eq l k)
      have HS := Lib.hid (driftL_succ l k)
      have hbd := hiAt_bd hg k
      have hkb : k ≤ 1099511627776 := by omega
      have H3 : Hid (hiB l (k + 1) = hiAt l k) := rfl
      have H4 : Hid (loB l (k + 1) = loAt l k) := rfl
      by_cases hz : k = 0
      · have H1 : Hid (hiAt l k = l[k]?.getD 0) := by subst hz; rfl
        have H2 : Hid (loAt l k = l[k]?.getD 0) := by subst hz; rfl
        have hz0 : ((k : Int) == 0) = true := by simp; omega
        clear hc hg hbd hz
        rw [Hid, H1.out, H2.out] at HD
        generalize l[k]?.getD 0 = y at *
        generalize driftL l k = cur at ho HS
        generalize hiB l k = hi0 at *
        generalize loB l k = lo0 at *
        replace HD := Lib.hid HD
        go_wp2_with (first | (go_at_call 100; ((with_reducible refine (l1Most_any _ _ _).mono ?_); rintro e w' ⟨rfl, rfl⟩)) | (at_builtin; (refine wpl_push_int w _ _ _ ?_ rfl _ _ rfl B k d _ rfl ho ?_ ?_ rfl hkb ?_); (focus (first | rfl | (simp; done))); (focus (repeat (first | exact Below.refl _ _ | assumption | refine bExt ?_ _ | refine bAlloc ?_ _ | refine bDrewN ?_ _ | refine bDrew ?_ | refine bSet ?_ (by first | exact Nat.le_refl _ | omega | (simp; done) | (simp; omega)) _))); (focus (repeat (first | exact Below.refl _ _ | assumption | refine bExt ?_ _ | refine bAlloc ?_ _ | refine bDrewN ?_ _ | refine bDrew ?_ | refine bSet ?_ (by first | exact Nat.le_refl _ | omega | (simp; done) | (simp; omega)) _))); intro A' c' z ho' hg hd))
        go_roundw
        case rel => exact ⟨k + 1, A', c', z, by omega, by go_num, by rw [H3.out, H1.out], by rw [H4.out, H2.out], rfl, rfl, by rw [HS.out, ← HD.out]; exact ho'⟩
        case measure => simp [intOf]; omega
      · obtain ⟨j, hj⟩ : ∃ j, k = j + 1 := ⟨k - 1, by omega⟩
        have H1 : Hid (hiAt l k = l[k]?.getD 0 + max (hiB l k) 0) := by subst hj; rfl
        have H2 : Hid (loAt l k = l[k]?.getD 0 + min (loB l k) 0) := by subst hj; rfl
        have hbj : (-100000 ≤ hiB l k ∧ hiB l k ≤ 6000000) ∧ (-6000000 ≤ loB l k ∧ loB l k ≤ 100000) := by
          subst hj
          have := hiAt_bd hg j
          simp only [hiB, loB]
          omega
        have hz0 : ((k : Int) == 0) = false := by simp; omega
        rw [Hid, H1.out, H2.out] at HD
        clear hc hg hbd hz hj
        generalize l[k]?.getD 0 = y at *
        generalize hiB l k = hi at *
        generalize loB l k = lo at *
        generalize driftL l k = cur at ho HS
        replace HD := Lib.hid HD
        have b1 : -200000 ≤ y + max hi 0 ∧ y + max hi 0 ≤ 6200000 := by omega
        have b2 : -6200000 ≤ y + min lo 0 ∧ y + min lo 0 ≤ 200000 := by omega
        generalize hmh : max hi 0 = mh at *
        generalize hml : min lo 0 = ml at *
        have c1 : ∀ w', Calls Try.prog 100 #[.int .i64 hi, .int .i64 0] w' fun e w'' => e = .returned (.int .i64 mh) ∧ w' = w'' := fun w' => by rw [← hmh]; exact l1Most_any _ _ _
        have c2 : ∀ w', Calls Try.prog 140 #[.int .i64 lo, .int .i64 0] w' fun e w'' => e = .returned (.int .i64 ml) ∧ w' = w'' := fun w' => by rw [← hml]; exact l1Least_any _ _ _
        have hmh2 : 0 ≤ mh ∧ mh ≤ 6000000 := by omega
        have hml2 : -6000000 ≤ ml ∧ ml ≤ 0 := by omega
        clear hmh hml
        go_wp2_with (first | (go_at_call 100; ((with_reducible refine (c1 _).mono ?_); rintro e w' ⟨rfl, rfl⟩)) | (go_at_call 100; ((with_reducible refine (l1Most_any _ _ _).mono ?_); rintro e w' ⟨rfl, rfl⟩)) | (go_at_call 140; ((with_reducible refine (c2 _).mono ?_); rintro e w' ⟨rfl, rfl⟩)) | (at_builtin; (refine wpl_push_int w _ _ _ ?_ rfl _ _ rfl B k d _ rfl ho ?_ ?_ rfl hkb ?_); (focus (first | rfl | (simp; done))); (focus (repeat (first | exact Below.refl _ _ | assumption | refine bExt ?_ _ | refine bAlloc ?_ _ | refine bDrewN ?_ _ | refine bDrew ?_ | refine bSet ?_ (by first | exact Nat.le_refl _ | omega | (simp; done) | (simp; omega)) _))); (focus (repeat (first | exact Below.refl _ _ | assumption | refine bExt ?_ _ | refine bAlloc ?_ _ | refine bDrewN ?_ _ | refine bDrew ?_ | refine bSet ?_ (by first | exact Nat.le_refl _ | omega | (simp; done) | (simp; omega)) _))); intro A' c' z ho' hg hd))
        go_roundw
        case rel => exact ⟨k + 1, A', c', z, by omega, by go_num, by rw [H3.out, H1.out], by rw [H4.out, H2.out], rfl, rfl, by rw [HS.out, ← HD.out]; exact ho'⟩
        case measure => simp [intOf]; omega
    · have hkn := Lib.hid (show k = n by omega)
      go_wp2
      go_ret
      rw [hkn.out] at ho ⊢
      exact RetI.mk_ ho (Nat.le_refl _) (ext_below _ _)
set_option maxHeartbeats 1000000 in
theorem driftAt_any (w : World) (A : Option Addr) (n c : Nat) (l : List Int) (ii : Nat) (ha : RdI w A n l) (hn : n ≤ 60) (hi : ii < n) (p3 : ∀ x ∈ l, -100000 ≤ x ∧ x ≤ 100000) :
    Calls Try.prog 96 #[.slice A n c, .int .i64 ii] w fun e w' => e = .returned (.int .i64 (driftV l ii)) ∧ w = w' := by
  have hg := getD_bd p3
  go_enter Try.func96, Try.ntmps96
  go_wp2
  go_loop [5, 6, 7] (fun a b i => ∃ (d : Nat) (e : Int), d ≤ ii + 1 ∧ e = (ii : Int) - d ∧ i = .int .i64 e ∧ a = .int .i64 (dnMost l ii d) ∧ b = .int .i64 (dnSum l ii d)) (fun _ _ i => (intOf i + 1).toNat)
  case atStart => exact ⟨0, _, by omega, by omega, rfl, rfl, rfl⟩
  case round =>
    obtain ⟨d, e, hd, he, rfl, rfl, rfl⟩ := hrel
    have f1 := dn_bd hg ii d
    by_cases hlt : d ≤ ii
    · obtain ⟨b, off, rfl, hb, hc⟩ := ha.open_ (by omega)
      obtain ⟨q, hq⟩ : ∃ q, q = ii - d := ⟨_, rfl⟩
      obtain rfl : e = (q : Int) := by omega
      have hqn : q < n := by omega
      have hck := hc q hqn
      rw [List.getD_eq_getElem?_getD] at hck
      have g1 := hg q
      have HS : Hid (dnSum l ii (d + 1) = dnSum l ii d + l[q]?.getD 0) := by rw [hq]; rfl
      have HM : Hid (dnMost l ii (d + 1) = max (dnMost l ii d) (absI (dnSum l ii (d + 1)))) := rfl
      rw [Hid, HS.out] at HM
      clear hc hg
      generalize l[q]?.getD 0 = y at *
      generalize dnSum l ii d = su at *
      generalize dnMost l ii d = mo at *
      replace HM := Lib.hid HM
      have ca := absOf_any (su + y) w (by omega) (by omega)
      rw [show max (su + y) (-(su + y)) = absI (su + y) from rfl] at ca
      generalize absI (su + y) = ab at *
      have Hq := Lib.hid hq
      clear hq he
      by_cases hmx : mo < ab
      all_goals
        go_wp2_with (first | (go_at_call 157; ((with_reducible refine (ca).mono ?_); rintro e w' ⟨rfl, rfl⟩)))
        go_round
        case rel => exact ⟨d + 1, _, by omega, by have := Hq.out; push_cast; omega, rfl, congrArg (Value.int .i64) (by rw [HM.out]; omega), by rw [HS.out]⟩
        case measure => simp [intOf] <;> omega
    · have hdn := Lib.hid (show d = ii + 1 by omega)
      have he0 : e < 0 := by omega
      go_wp2
      go_ret
      exact ⟨ret_int (by rw [driftV, hdn.out]), rfl⟩
def gdV (l : List Int) : Int := if serB l then mostTo l l.length else 0
theorem mostTo_bd {l : List Int} (hb : ∀ k : Nat, -100000 ≤ l[k]?.getD 0 ∧ l[k]?.getD 0 ≤ 100000) (k : Nat) : 0 ≤ mostTo l k := by
  induction k with
  | zero => simp [mostTo]
  | succ k ih => simp only [mostTo]; omega
set_option maxHeartbeats 1000000 in
theorem specGreatestDrift_any (w : World) (A : Option Addr) (n c : Nat) (l : List Int) (ha : RdI w A n l) (hn : n ≤ 1099511627776) :
    Calls Try.prog 13 #[.slice A n c] w fun e w' => e = .returned (.tuple #[.int .i64 (gdV l), .bool (serB l)]) ∧ ∃ x, w' = ext w x := by
  have Hl := Lib.hid ha.len
  cases h1 : serB l
  · have hv : gdV l = 0 := by simp [gdV, h1]
    rw [hv]
    go_enter Try.func13, Try.ntmps13
    go_wp2_with (first | (go_at_call 97; ((with_reducible refine (jdSeries_any _ _ _ _ _ ha hn).mono ?_); rintro e w' ⟨rfl, rfl⟩)))
    go_ret2
    exact ⟨rfl, ext_ex (by repeat (first | exact Below.refl _ _ | assumption | refine bExt ?_ _ | refine bAlloc ?_ _ | refine bDrewN ?_ _ | refine bDrew ?_ | refine bSet ?_ (by first | exact Nat.le_refl _ | omega | (simp; done) | (simp; omega)) _))⟩
  have hv : gdV l = mostTo l n := by simp [gdV, h1, Hl.out]
  rw [hv]
  obtain ⟨⟨p1, p2⟩, p3⟩ := serB_of h1
  rw [Hl.out] at p1 p2
  have Hx := Lib.hid (driftL_len l n)
  go_enter Try.func13, Try.ntmps13
  go_wp2_with (first | (go_at_call 97; ((with_reducible refine (jdSeries_any _ _ _ _ _ ha hn).mono ?_); rintro e w' ⟨rfl, rfl⟩)) | (go_at_call 99; ((with_reducible refine (jdDrift_any _ _ _ _ _ ha p2 p3).mono ?_); rintro e w' ⟨B, m, d, x, rfl, rfl, ob⟩; obtain rfl : m = n := ob.len.symm.trans Hx.out)))
  go_loop [4, 6, 13] (fun a _ i => ∃ k : Nat, k ≤ m ∧ i = .int .i64 k ∧ a = .int .i64 (mostTo l k)) (fun _ _ i => m - (intOf i).toNat)
  case atStart => exact ⟨0, by omega, rfl, rfl⟩
  case round =>
    obtain ⟨k, hk, rfl, rfl⟩ := hrel
    by_cases hlt : k < m
    · obtain ⟨b, off, rfl, hb, hc⟩ := ob.rd.open_ (by omega)
      have hck := hc k hlt
      rw [List.getD_eq_getElem?_getD, driftL_get _ _ _ hlt] at hck
      have HM : Hid (mostTo l (k + 1) = max (mostTo l k) (driftV l k)) := rfl
      clear hc
      generalize mostTo l k = mo at *
      generalize driftV l k = dv at *
      go_wp2_with (first | (go_at_call 100; ((with_reducible refine (l1Most_any _ _ _).mono ?_); rintro e w' ⟨rfl, rfl⟩)))
      go_round
      case rel => exact ⟨k + 1, by omega, by go_num, by rw [HM.out]⟩
      case measure => simp [intOf]; omega
    · have hkn := Lib.hid (show k = m by omega)
      go_wp2
      go_ret2
      exact ⟨ret_intB' (by rw [hkn.out]), _, rfl⟩
set_option maxHeartbeats 1000000 in
theorem implGreatestDrift_any (w : World) (A : Option Addr) (n c : Nat) (l : List Int) (ha : RdI w A n l) (hn : n ≤ 1099511627776) :
    Calls Try.prog 12 #[.slice A n c] w fun e w' => e = .returned (.tuple #[.int .i64 (gdV l), .bool (serB l)]) ∧ ∃ x, w' = ext w x := by
  have Hl := Lib.hid ha.len
  cases h1 : serB l
  · have hv : gdV l = 0 := by simp [gdV, h1]
    rw [hv]
    go_enter Try.func12, Try.ntmps12
    go_wp2_with (first | (go_at_call 94; ((with_reducible refine (isSeries_any _ _ _ _ _ ha hn).mono ?_); rintro e w' ⟨rfl, rfl⟩)))
    go_ret2
    exact ⟨rfl, ext_ex (by repeat (first | exact Below.refl _ _ | assumption | refine bExt ?_ _ | refine bAlloc ?_ _ | refine bDrewN ?_ _ | refine bDrew ?_ | refine bSet ?_ (by first | exact Nat.le_refl _ | omega | (simp; done) | (simp; omega)) _))⟩
  have hv : gdV l = mostTo l n := by simp [gdV, h1, Hl.out]
  rw [hv]
  obtain ⟨⟨p1, p2⟩, p3⟩ := serB_of h1
  rw [Hl.out] at p1 p2
  go_enter Try.func12, Try.ntmps12
  go_wp2_with (first | (go_at_call 94; ((with_reducible refine (isSeries_any _ _ _ _ _ ha hn).mono ?_); rintro e w' ⟨rfl, rfl⟩)))
  go_loop [4, 5, 11] (fun a _ i => ∃ k : Nat, k ≤ n ∧ i = .int .i64 k ∧ a = .int .i64 (mostTo l k)) (fun _ _ i => n - (intOf i).toNat)
  case atStart => exact ⟨0, by omega, rfl, rfl⟩
  case round =>
    obtain ⟨k, hk, rfl, rfl⟩ := hrel
    by_cases hlt : k < n
    · have HM : Hid (mostTo l (k + 1) = max (mostTo l k) (driftV l k)) := rfl
      have cd := driftAt_any w A n c l k ha p2 hlt p3
      generalize mostTo l k = mo at *
      generalize driftV l k = dv at *
      by_cases hmx : mo < dv
      all_goals
        go_wp2_with (first | (go_at_call 96; ((with_reducible refine (cd).mono ?_); rintro e w' ⟨rfl, rfl⟩)))
        go_round
        case rel => exact ⟨k + 1, by omega, by go_num, congrArg (Value.int .i64) (by rw [HM.out]; omega)⟩
        case measure => simp [intOf]; omega
    · have hkn := Lib.hid (show k = n by omega)
      go_wp2
      go_ret2
      exact ⟨ret_intB' (by rw [hkn.out]), ext_ex (by repeat (first | exact Below.refl _ _ | assumption | refine bExt ?_ _ | refine bAlloc ?_ _ | refine bDrewN ?_ _ | refine bDrew ?_ | refine bSet ?_ (by first | exact Nat.le_refl _ | omega | (simp; done) | (simp; omega)) _))⟩
def fdP (l : List Int) (lim : Int) (i : Nat) : Bool := decide (lim < driftV l i)
def fdOn (l : List Int) (lim : Int) : Bool := serB l && inB lim 0 1000000
def fdR (l : List Int) (lim : Int) : Nat × Bool := if fdOn l lim then firstIdx (fdP l lim) l.length else (0, false)
def fdV (l : List Int) (lim : Int) : Int := (fdR l lim).1
def fdK (l : List Int) (lim : Int) : Bool := (fdR l lim).2
theorem fd_off {l : List Int} {lim : Int} (h : fdOn l lim = false) : fdV l lim = 0 ∧ fdK l lim = false := by simp [fdV, fdK, fdR, h]
theorem fd_hit {l : List Int} {lim : Int} {k n : Nat} (h : fdOn l lim = true) (hl : l.length = n) (hk : k < n) (hb : ∀ j, j < k → Hid (fdP l lim j = false)) (hh : fdP l lim k = true) : fdV l lim = k ∧ fdK l lim = true := by
  have := firstIdx_hit (n := l.length) (by omega) hb hh
  simp [fdV, fdK, fdR, h, this]
theorem fd_end {l : List Int} {lim : Int} {n : Nat} (h : fdOn l lim = true) (hl : l.length = n) (hb : ∀ j, j < n → Hid (fdP l lim j = false)) : fdV l lim = 0 ∧ fdK l lim = false := by
  subst hl
  have := firstIdx_none (p := fdP l lim) (n := l.length) (fun j hj => hb j hj)
  simp [fdV, fdK, fdR, h, this]
theorem fd_more {l : List Int} {lim : Int} {k : Nat} (hb : ∀ j, j < k → Hid (fdP l lim j = false)) (h : fdP l lim k = false) : ∀ j, j < k + 1 → Hid (fdP l lim j = false) := fun j hj => by
  by_cases e : j = k
  · subst e; exact h
  · exact hb j (by omega)
theorem ret_intBB {a b : Int} {k j : Bool} (h : a = b) (h' : k = j) : Ending.returned (.tuple #[.int .i64 a, .bool k]) = .returned (.tuple #[.int .i64 b, .bool j]) := by rw [h, h']
set_option maxHeartbeats 1000000 in
theorem specFirstDrift_any (w : World) (A : Option Addr) (n c : Nat) (l : List Int) (lim : Int) (ha : RdI w A n l) (hn : n ≤ 1099511627776) :
    Calls Try.prog 11 #[.slice A n c, .int .i64 lim] w fun e w' => e = .returned (.tuple #[.int .i64 (fdV l lim), .bool (fdK l lim)]) ∧ ∃ x, w' = ext w x := by
  have Hl := Lib.hid ha.len
  cases h1 : serB l
  · have hv := fd_off (show fdOn l lim = false by simp [fdOn, h1])
    rw [hv.1, hv.2]
    go_enter Try.func11, Try.ntmps11
    go_wp2_with (first | (go_at_call 97; ((with_reducible refine (jdSeries_any _ _ _ _ _ ha hn).mono ?_); rintro e w' ⟨rfl, rfl⟩)) | (go_at_call 98; ((with_reducible refine (l1In_any _ _ _ _).mono ?_); rintro e w' ⟨rfl, rfl⟩)))
    go_ret2
    exact ⟨rfl, ext_ex (by repeat (first | exact Below.refl _ _ | assumption | refine bExt ?_ _ | refine bAlloc ?_ _ | refine bDrewN ?_ _ | refine bDrew ?_ | refine bSet ?_ (by first | exact Nat.le_refl _ | omega | (simp; done) | (simp; omega)) _))⟩
  cases h2 : inB lim 0 1000000
  · have hv := fd_off (show fdOn l lim = false by simp [fdOn, h2])
    rw [hv.1, hv.2]
    go_enter Try.func11, Try.ntmps11
    go_wp2_with (first | (go_at_call 97; ((with_reducible refine (jdSeries_any _ _ _ _ _ ha hn).mono ?_); rintro e w' ⟨rfl, rfl⟩)) | (go_at_call 98; ((with_reducible refine (l1In_any _ _ _ _).mono ?_); rintro e w' ⟨rfl, rfl⟩)))
    go_ret2
    exact ⟨rfl, ext_ex (by repeat (first | exact Below.refl _ _ | assumption | refine bExt ?_ _ | refine bAlloc ?_ _ | refine bDrewN ?_ _ | refine bDrew ?_ | refine bSet ?_ (by first | exact Nat.le_refl _ | omega | (simp; done) | (simp; omega)) _))⟩
  have Hon := Lib.hid (show fdOn l lim = true by simp [fdOn, h1, h2])
  obtain ⟨⟨p1, p2⟩, p3⟩ := serB_of h1
  rw [Hl.out] at p1 p2
  have Hx := Lib.hid (driftL_len l n)
  go_enter Try.func11, Try.ntmps11
  go_wp2_with (first | (go_at_call 97; ((with_reducible refine (jdSeries_any _ _ _ _ _ ha hn).mono ?_); rintro e w' ⟨rfl, rfl⟩)) | (go_at_call 98; ((with_reducible refine (l1In_any _ _ _ _).mono ?_); rintro e w' ⟨rfl, rfl⟩)) | (go_at_call 99; ((with_reducible refine (jdDrift_any _ _ _ _ _ ha p2 p3).mono ?_); rintro e w' ⟨B, m, d, x, rfl, rfl, ob⟩; obtain rfl : m = n := ob.len.symm.trans Hx.out)))
  go_loop [6, 7, 19] (fun _ _ i => ∃ k : Nat, k ≤ m ∧ i = .int .i64 k ∧ ∀ j, j < k → Hid (fdP l lim j = false)) (fun _ _ i => m - (intOf i).toNat)
  case atStart => exact ⟨0, by omega, rfl, fun j hj => absurd hj (by omega)⟩
  case round =>
    obtain ⟨k, hk, rfl, hj⟩ := hrel
    by_cases hlt : k < m
    · obtain ⟨b, off, rfl, hb, hc⟩ := ob.rd.open_ (by omega)
      have hck := hc k hlt
      rw [List.getD_eq_getElem?_getD, driftL_get _ _ _ hlt] at hck
      clear hc
      have HH : Hid (lim < driftV l k → fdV l lim = k ∧ fdK l lim = true) := fun h => fd_hit Hon.out Hl.out hlt hj (by simpa [fdP] using h)
      have HM : Hid (¬ lim < driftV l k → ∀ j, j < k + 1 → Hid (fdP l lim j = false)) := fun h => fd_more hj (by simpa [fdP] using h)
      clear hj
      generalize driftV l k = dv at *
      by_cases hd : lim < dv
      · have Hv := Lib.hid (HH.out hd)
        go_wp2_with (first | fail)
        go_ret2
        exact ⟨ret_intBB Hv.out.1.symm Hv.out.2.symm, ext_ex (by repeat (first | exact Below.refl _ _ | assumption | refine bExt ?_ _ | refine bAlloc ?_ _ | refine bDrewN ?_ _ | refine bDrew ?_ | refine bSet ?_ (by first | exact Nat.le_refl _ | omega | (simp; done) | (simp; omega)) _))⟩
      · have Hv := Lib.hid (HM.out hd)
        go_wp2_with (first | fail)
        go_round
        case rel => exact ⟨k + 1, by omega, by go_num, Hv.out⟩
        case measure => simp [intOf]; omega
    · have Hv := Lib.hid (fd_end Hon.out Hl.out (fun j hjn => hj j (by omega)))
      clear hj
      go_wp2
      go_ret2
      exact ⟨ret_intBB Hv.out.1.symm Hv.out.2.symm, ext_ex (by repeat (first | exact Below.refl _ _ | assumption | refine bExt ?_ _ | refine bAlloc ?_ _ | refine bDrewN ?_ _ | refine bDrew ?_ | refine bSet ?_ (by first | exact Nat.le_refl _ | omega | (simp; done) | (simp; omega)) _))⟩
set_option maxHeartbeats 1000000 in
theorem implFirstDrift_any (w : World) (A : Option Addr) (n c : Nat) (l : List Int) (lim : Int) (ha : RdI w A n l) (hn : n ≤ 1099511627776) :
    Calls Try.prog 10 #[.slice A n c, .int .i64 lim] w fun e w' => e = .returned (.tuple #[.int .i64 (fdV l lim), .bool (fdK l lim)]) ∧ ∃ x, w' = ext w x := by
  have Hl := Lib.hid ha.len
  cases h1 : serB l
  · have hv := fd_off (show fdOn l lim = false by simp [fdOn, h1])
    rw [hv.1, hv.2]
    go_enter Try.func10, Try.ntmps10
    go_wp2_with (first | (go_at_call 94; ((with_reducible refine (isSeries_any _ _ _ _ _ ha hn).mono ?_); rintro e w' ⟨rfl, rfl⟩)) | (go_at_call 95; ((with_reducible refine (within_any _ _ _ _).mono ?_); rintro e w' ⟨rfl, rfl⟩)))
    go_ret2
    exact ⟨rfl, ext_ex (by repeat (first | exact Below.refl _ _ | assumption | refine bExt ?_ _ | refine bAlloc ?_ _ | refine bDrewN ?_ _ | refine bDrew ?_ | refine bSet ?_ (by first | exact Nat.le_refl _ | omega | (simp; done) | (simp; omega)) _))⟩
  cases h2 : inB lim 0 1000000
  · have hv := fd_off (show fdOn l lim = false by simp [fdOn, h2])
    rw [hv.1, hv.2]
    go_enter Try.func10, Try.ntmps10
    go_wp2_with (first | (go_at_call 94; ((with_reducible refine (isSeries_any _ _ _ _ _ ha hn).mono ?_); rintro e w' ⟨rfl, rfl⟩)) | (go_at_call 95; ((with_reducible refine (within_any _ _ _ _).mono ?_); rintro e w' ⟨rfl, rfl⟩)))
    go_ret2
    exact ⟨rfl, ext_ex (by repeat (first | exact Below.refl _ _ | assumption | refine bExt ?_ _ | refine bAlloc ?_ _ | refine bDrewN ?_ _ | refine bDrew ?_ | refine bSet ?_ (by first | exact Nat.le_refl _ | omega | (simp; done) | (simp; omega)) _))⟩
  have Hon := Lib.hid (show fdOn l lim = true by simp [fdOn, h1, h2])
  obtain ⟨⟨p1, p2⟩, p3⟩ := serB_of h1
  rw [Hl.out] at p1 p2
  have Hx := Lib.hid (driftL_len l n)
  go_enter Try.func10, Try.ntmps10
  go_wp2_with (first | (go_at_call 94; ((with_reducible refine (isSeries_any _ _ _ _ _ ha hn).mono ?_); rintro e w' ⟨rfl, rfl⟩)) | (go_at_call 95; ((with_reducible refine (within_any _ _ _ _).mono ?_); rintro e w' ⟨rfl, rfl⟩)))
  go_loop [6, 17] (fun _ i => ∃ k : Nat, k ≤ n ∧ i = .int .i64 k ∧ ∀ j, j < k → Hid (fdP l lim j = false)) (fun _ i => n - (intOf i).toNat)
  case atStart => exact ⟨0, by omega, rfl, fun j hj => absurd hj (by omega)⟩
  case round =>
    obtain ⟨k, hk, rfl, hj⟩ := hrel
    by_cases hlt : k < n
    · have cd := driftAt_any w A n c l k ha p2 hlt p3
      have HH : Hid (lim < driftV l k → fdV l lim = k ∧ fdK l lim = true) := fun h => fd_hit Hon.out Hl.out hlt hj (by simpa [fdP] using h)
      have HM : Hid (¬ lim < driftV l k → ∀ j, j < k + 1 → Hid (fdP l lim j = false)) := fun h => fd_more hj (by simpa [fdP] using h)
      clear hj
      generalize driftV l k = dv at *
      by_cases hd : lim < dv
      · have Hv := Lib.hid (HH.out hd)
        go_wp2_with (first | fail | (go_at_call 96; ((with_reducible refine (cd).mono ?_); rintro e w' ⟨rfl, rfl⟩)))
        go_ret2
        exact ⟨ret_intBB Hv.out.1.symm Hv.out.2.symm, ext_ex (by repeat (first | exact Below.refl _ _ | assumption | refine bExt ?_ _ | refine bAlloc ?_ _ | refine bDrewN ?_ _ | refine bDrew ?_ | refine bSet ?_ (by first | exact Nat.le_refl _ | omega | (simp; done) | (simp; omega)) _))⟩
      · have Hv := Lib.hid (HM.out hd)
        go_wp2_with (first | fail | (go_at_call 96; ((with_reducible refine (cd).mono ?_); rintro e w' ⟨rfl, rfl⟩)))
        go_round
        case rel => exact ⟨k + 1, by omega, by go_num, Hv.out⟩
        case measure => simp [intOf]; omega
    · have Hv := Lib.hid (fd_end Hon.out Hl.out (fun j hjn => hj j (by omega)))
      clear hj
      go_wp2
      go_ret2
      exact ⟨ret_intBB Hv.out.1.symm Hv.out.2.symm, ext_ex (by repeat (first | exact Below.refl _ _ | assumption | refine bExt ?_ _ | refine bAlloc ?_ _ | refine bDrewN ?_ _ | refine bDrew ?_ | refine bSet ?_ (by first | exact Nat.le_refl _ | omega | (simp; done) | (simp; omega)) _))⟩
end Go.Proofs.Ytppcmnolkbobfaa
