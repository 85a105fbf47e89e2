/- Contracts of OnIce and GreatestGap, in the program and in the reference. Conditions: slices below 2^40 elements. -/
import Derived.Test.YtogglhgagblihaaTimes2
set_option linter.unusedVariables false
set_option linter.unusedSimpArgs false
set_option maxRecDepth 100000
namespace Go.Proofs.Ytogglhgagblihaa
open Go.RowKit
def iceAt (l : List (Int × Int)) (S : List Int) (t : Int) (j : Nat) : Bool := decide (S[j]?.getD 0 ≤ t) && decide (t < S[j]?.getD 0 + (l[j]?.getD (0, 0)).2)
def iceOk (l : List (Int × Int)) (a b c gap t : Int) : Bool := timedB l a b c gap && inB t 0 200000
def iceR (l : List (Int × Int)) (a b c gap t : Int) : Nat × Bool := if iceOk l a b c gap t then firstIdx (iceAt l (runS l a b c gap 0 0) t) l.length else (0, false)
def iceV (l : List (Int × Int)) (a b c gap t : Int) : Int := (iceR l a b c gap t).1
def iceB (l : List (Int × Int)) (a b c gap t : Int) : Bool := (iceR l a b c gap t).2
theorem ice_no {l : List (Int × Int)} {a b c gap t : Int} (h : iceOk l a b c gap t = false) : iceV l a b c gap t = 0 ∧ iceB l a b c gap t = false := by
  simp [iceV, iceB, iceR, h]
theorem ice_hit {l : List (Int × Int)} {a b c gap t : Int} {k n : Nat} (hl : l.length = n) (h : iceOk l a b c gap t = true) (hk : k < n) (hb : ∀ j, j < k → Hid (iceAt l (runS l a b c gap 0 0) t j = false)) (hh : iceAt l (runS l a b c gap 0 0) t k = true) : iceV l a b c gap t = k ∧ iceB l a b c gap t = true := by
  have := firstIdx_hit (n := l.length) (by omega) hb hh
  simp [iceV, iceB, iceR, h, this]
theorem ice_none {l : List (Int × Int)} {a b c gap t : Int} {n : Nat} (hl : l.length = n) (h : iceOk l a b c gap t = true) (hb : ∀ j, j < n → Hid (iceAt l (runS l a b c gap 0 0) t j = false)) : iceV l a b c gap t = 0 ∧ iceB l a b c gap t = false := by
  have := firstIdx_none (p := iceAt l (runS l a b c gap 0 0) t) (n := l.length) (fun j hj => hb j (by omega))
  simp [iceV, iceB, iceR, h, this]
theorem ice_more {l : List (Int × Int)} {S : List Int} {t : Int} {k : Nat} (hb : ∀ j, j < k → Hid (iceAt l S t j = false)) (h : iceAt l S t k = false) : ∀ j, j < k + 1 → Hid (iceAt l S t j = false) := fun j hj => by
  by_cases e : j = k
  · subst e; exact h
  · exact hb j (by omega)
theorem ice_at {l : List (Int × Int)} {S : List Int} {t s m : Int} {k : Nat} (hs : S[k]?.getD 0 = s) (hm : (l[k]?.getD (0, 0)).2 = m) : iceAt l S t k = (decide (s ≤ t) && decide (t < s + m)) := by rw [iceAt, hs, hm]
theorem getD_mem_bd {S : List Int} {k : Nat} (h : k < S.length) (hb : ∀ x ∈ S, 0 ≤ x ∧ x ≤ 1000000) : 0 ≤ S[k]?.getD 0 ∧ S[k]?.getD 0 ≤ 1000000 := hb _ (getD_mem 0 S k h)
set_option maxHeartbeats 1000000 in
theorem specOnIce_any (w : World) (L : Option Addr) (n cl : Nat) (l : List (Int × Int)) (a b c gap t : Int) (hl : RdS w L n l) (hn : n ≤ 1099511627776) :
    Calls Try.prog 15 #[.slice L n cl, .agg #[.int .i64 a, .int .i64 b, .int .i64 c, .int .i64 gap], .int .i64 t] w (RetIntB w (iceV l a b c gap t) (iceB l a b c gap t)) := by
  have Hl := Lib.hid hl.len
  cases hk : iceOk l a b c gap t
  · have hno := ice_no hk
    rw [hno.1, hno.2]
    clear hno
    unfold iceOk at hk
    go_enter Try.func15, Try.ntmps15
    go_wp2_with (first | (go_at_call 63; ((with_reducible refine (tiGood_any _ _ _ _ _ _ _ _ _ (hl.below (bAlloc (Below.refl _ _) _)) hn).mono ?_); rintro e w' ⟨rfl, x, rfl⟩)) | (go_at_call 70; ((with_reducible refine (tiClock_any _ _).mono ?_); rintro e w' ⟨rfl, rfl⟩)))
    all_goals first | (go_ret2; exact RetIntB.mk_ rfl rfl (by repeat (first | exact Below.refl _ _ | assumption | refine bExt ?_ _ | refine bAlloc ?_ _ | refine bDrewN ?_ _ | refine bDrew ?_ | refine bSet ?_ (by first | exact Nat.le_refl _ | omega | (simp; done) | (simp; omega)) _))) | (exfalso; simp_all)
  · have Hk := Lib.hid hk
    simp only [iceOk, Bool.and_eq_true] at hk
    obtain ⟨ht, htt⟩ := hk
    have h12 := timedB_of ht
    obtain ⟨h1, h2⟩ := h12
    have htb := inB_iff.1 htt
    have hb1 : 1 ≤ b := by simp only [dayB, Bool.and_eq_true] at h2; exact (inB_iff.1 h2.1.1.2).1
    have hbd := runS_bd (i := 0) ht (Int.le_refl 0) (by omega)
    have hSl := runS_len (a := a) (c := c) (gap := gap) (i := 0) (delay := 0) h1 hb1
    have hn40 := (slotsB_of h1).2.2
    rw [Hl.out] at hSl hn40
    have HZ := Lib.hid (runS_zero l a b c gap (-1) 0)
    go_enter Try.func15, Try.ntmps15
    go_wp2_with (first | (go_at_call 63; ((with_reducible refine (tiGood_any _ _ _ _ _ _ _ _ _ (hl.below (bAlloc (Below.refl _ _) _)) hn).mono ?_); rintro e w' ⟨rfl, x, rfl⟩)) | (go_at_call 70; ((with_reducible refine (tiClock_any _ _).mono ?_); rintro e w' ⟨rfl, rfl⟩)) | (go_at_call 64; ((with_reducible refine (tiRun_any _ _ _ _ _ _ _ _ _ _ _ (hl.below (by repeat (first | exact Below.refl _ _ | assumption | refine bExt ?_ _ | refine bAlloc ?_ _ | refine bDrewN ?_ _ | refine bDrew ?_ | refine bSet ?_ (by first | exact Nat.le_refl _ | omega | (simp; done) | (simp; omega)) _))) h1 h2 (by omega) (by omega)).mono ?_); rintro e w' ⟨A, n1, c1, B, m1, d1, x, rfl, rfl, oA, oB⟩)))
    rw [HZ.out] at oA
    obtain rfl : n1 = n := oA.len.symm.trans hSl
    have hrA := oA.rd
    clear oB
    generalize hSv : runS l a b c gap 0 0 = SV at hrA hbd hSl
    have HSv := Lib.hid hSv
    clear hSv
    go_loop [11, 12, 31] (fun _ _ i => ∃ k : Nat, k ≤ n1 ∧ i = .int .i64 k ∧ ∀ j, j < k → Hid (iceAt l SV t j = false)) (fun _ _ i => n1 - (intOf i).toNat)
    case atStart => exact ⟨0, by omega, rfl, fun j hj => by omega⟩
    case round =>
      obtain ⟨k, hk, rfl, hok⟩ := hrel
      by_cases hlt : k < n1
      · obtain ⟨b1, o1, rfl, hb1, hc1⟩ := hrA.open_ (by omega)
        obtain ⟨b2, o2, rfl, hb2, hm0, hm1⟩ := hl.at_ k hlt
        have hmu := slotsB_music h1 k (by rw [Hl.out]; exact hlt)
        have hsb := getD_mem_bd (k := k) (by rw [hSl]; exact hlt) hbd
        have hce := hc1 k hlt
        clear hc1
        rw [List.getD_eq_getElem?_getD] at hce
        generalize hmuv : (l[k]?.getD (0, 0)).2 = mu at *
        generalize hsv : SV[k]?.getD 0 = s at *
        have Hat := Lib.hid (ice_at (t := t) hsv hmuv)
        clear hmuv hsv
        have hin : inB t s (s + mu - 1) = (decide (s ≤ t) && decide (t < s + mu)) := by unfold inB; congr 1; rw [decide_eq_decide]; omega
        have Hin := Lib.hid hin
        clear hin
        go_wp2_with (first | (go_at_call 71; ((with_reducible refine (l1In_any _ _ _ _).mono ?_); rintro e w' ⟨rfl, rfl⟩)))
        · have hh : inB t s (s + mu - 1) = true := by assumption
          have hhit := ice_hit Hl.out Hk.out hlt (fun j hj => by rw [HSv.out]; exact hok j hj) (by rw [HSv.out, Hat.out, ← Hin.out]; exact hh)
          go_ret2
          exact RetIntB.mk_ hhit.1.symm hhit.2.symm (by repeat (first | exact Below.refl _ _ | assumption | refine bExt ?_ _ | refine bAlloc ?_ _ | refine bDrewN ?_ _ | refine bDrew ?_ | refine bSet ?_ (by first | exact Nat.le_refl _ | omega | (simp; done) | (simp; omega)) _))
        · have hh : inB t s (s + mu - 1) = false := by assumption
          go_round
          case rel => exact ⟨k + 1, by omega, by go_num, ice_more hok (by rw [Hat.out, ← Hin.out]; exact hh)⟩
          case measure => simp [intOf]; omega
      · go_wp2
        go_ret2
        have hno := ice_none Hl.out Hk.out (fun j hj => by rw [HSv.out]; exact hok j (by omega))
        exact RetIntB.mk_ hno.1.symm hno.2.symm (by repeat (first | exact Below.refl _ _ | assumption | refine bExt ?_ _ | refine bAlloc ?_ _ | refine bDrewN ?_ _ | refine bDrew ?_ | refine bSet ?_ (by first | exact Nat.le_refl _ | omega | (simp; done) | (simp; omega)) _))
set_option maxHeartbeats 1000000 in
theorem implOnIce_any (w : World) (L : Option Addr) (n cl : Nat) (l : List (Int × Int)) (a b c gap t : Int) (hl : RdS w L n l) (hn : n ≤ 1099511627776) (hnc : n ≤ cl) :
    Calls Try.prog 14 #[.slice L n cl, .agg #[.int .i64 a, .int .i64 b, .int .i64 c, .int .i64 gap], .int .i64 t] w (RetIntB w (iceV l a b c gap t) (iceB l a b c gap t)) := by
  have Hl := Lib.hid hl.len
  cases hk : iceOk l a b c gap t
  · have hno := ice_no hk
    rw [hno.1, hno.2]
    clear hno
    unfold iceOk at hk
    go_enter Try.func14, Try.ntmps14
    go_wp2_with (first | (go_at_call 61; ((with_reducible refine (areTimed_any _ _ _ _ _ _ _ _ _ (hl.below (bAlloc (Below.refl _ _) _)) hn hnc).mono ?_); rintro e w' ⟨rfl, x, rfl⟩)) | (go_at_call 69; ((with_reducible refine (isDayTime_any _ _).mono ?_); rintro e w' ⟨rfl, rfl⟩)))
    all_goals first | (go_ret2; exact RetIntB.mk_ rfl rfl (by repeat (first | exact Below.refl _ _ | assumption | refine bExt ?_ _ | refine bAlloc ?_ _ | refine bDrewN ?_ _ | refine bDrew ?_ | refine bSet ?_ (by first | exact Nat.le_refl _ | omega | (simp; done) | (simp; omega)) _))) | (exfalso; simp_all)
  · have Hk := Lib.hid hk
    simp only [iceOk, Bool.and_eq_true] at hk
    obtain ⟨ht, htt⟩ := hk
    have h12 := timedB_of ht
    obtain ⟨h1, h2⟩ := h12
    have htb := inB_iff.1 htt
    have hb1 : 1 ≤ b := by simp only [dayB, Bool.and_eq_true] at h2; exact (inB_iff.1 h2.1.1.2).1
    have hbd := runS_bd (i := 0) ht (Int.le_refl 0) (by omega)
    have hSl := runS_len (a := a) (c := c) (gap := gap) (i := 0) (delay := 0) h1 hb1
    have hn40 := (slotsB_of h1).2.2
    rw [Hl.out] at hSl hn40
    go_enter Try.func14, Try.ntmps14
    go_wp2_with (first | (go_at_call 61; ((with_reducible refine (areTimed_any _ _ _ _ _ _ _ _ _ (hl.below (bAlloc (Below.refl _ _) _)) hn hnc).mono ?_); rintro e w' ⟨rfl, x, rfl⟩)) | (go_at_call 69; ((with_reducible refine (isDayTime_any _ _).mono ?_); rintro e w' ⟨rfl, rfl⟩)) | (go_at_call 62; ((with_reducible refine (timesOfDay_any _ _ _ _ _ _ _ _ _ _ _ (hl.below (by repeat (first | exact Below.refl _ _ | assumption | refine bExt ?_ _ | refine bAlloc ?_ _ | refine bDrewN ?_ _ | refine bDrew ?_ | refine bSet ?_ (by first | exact Nat.le_refl _ | omega | (simp; done) | (simp; omega)) _))) h1 h2 (by omega) (by omega)).mono ?_); rintro e w' ⟨A, n1, c1, B, m1, d1, x, rfl, rfl, oA, oB⟩)))
    obtain rfl : n1 = n := oA.len.symm.trans hSl
    have hrA := oA.rd
    clear oB
    generalize hSv : runS l a b c gap 0 0 = SV at hrA hbd hSl
    have HSv := Lib.hid hSv
    clear hSv
    go_loop [11, 12, 31] (fun _ _ i => ∃ k : Nat, k ≤ n1 ∧ i = .int .i64 k ∧ ∀ j, j < k → Hid (iceAt l SV t j = false)) (fun _ _ i => n1 - (intOf i).toNat)
    case atStart => exact ⟨0, by omega, rfl, fun j hj => by omega⟩
    case round =>
      obtain ⟨k, hk, rfl, hok⟩ := hrel
      by_cases hlt : k < n1
      · obtain ⟨b1, o1, rfl, hb1, hc1⟩ := hrA.open_ (by omega)
        obtain ⟨b2, o2, rfl, hb2, hm0, hm1⟩ := hl.at_ k hlt
        have hmu := slotsB_music h1 k (by rw [Hl.out]; exact hlt)
        have hsb := getD_mem_bd (k := k) (by rw [hSl]; exact hlt) hbd
        have hce := hc1 k hlt
        clear hc1
        rw [List.getD_eq_getElem?_getD] at hce
        generalize hmuv : (l[k]?.getD (0, 0)).2 = mu at *
        generalize hsv : SV[k]?.getD 0 = s at *
        have Hat := Lib.hid (ice_at (t := t) hsv hmuv)
        clear hmuv hsv
        by_cases hc : s ≤ t ∧ t < s + mu
        · obtain ⟨hc1, hc2⟩ := hc
          have hhit := ice_hit Hl.out Hk.out hlt (fun j hj => by rw [HSv.out]; exact hok j hj) (by rw [HSv.out, Hat.out]; simp [hc1, hc2])
          have Hhit := Lib.hid hhit
          clear hhit
          go_wp2
          go_ret2
          exact RetIntB.mk_ Hhit.out.1.symm Hhit.out.2.symm (by repeat (first | exact Below.refl _ _ | assumption | refine bExt ?_ _ | refine bAlloc ?_ _ | refine bDrewN ?_ _ | refine bDrew ?_ | refine bSet ?_ (by first | exact Nat.le_refl _ | omega | (simp; done) | (simp; omega)) _))
        · have hno : iceAt l SV t k = false := by rw [Hat.out]; simp; omega
          have Hno := Lib.hid hno
          clear hno
          by_cases hc1 : s ≤ t
          · have hc2 : s + mu ≤ t := by omega
            go_wp2
            go_round
            case rel => exact ⟨k + 1, by omega, by go_num, ice_more hok Hno.out⟩
            case measure => simp [intOf]; omega
          · go_wp2
            go_round
            case rel => exact ⟨k + 1, by omega, by go_num, ice_more hok Hno.out⟩
            case measure => simp [intOf]; omega
      · go_wp2
        go_ret2
        have hno := ice_none Hl.out Hk.out (fun j hj => by rw [HSv.out]; exact hok j (by omega))
        exact RetIntB.mk_ hno.1.symm hno.2.symm (by repeat (first | exact Below.refl _ _ | assumption | refine bExt ?_ _ | refine bAlloc ?_ _ | refine bDrewN ?_ _ | refine bDrew ?_ | refine bSet ?_ (by first | exact Nat.le_refl _ | omega | (simp; done) | (simp; omega)) _))
end Go.Proofs.Ytogglhgagblihaa
