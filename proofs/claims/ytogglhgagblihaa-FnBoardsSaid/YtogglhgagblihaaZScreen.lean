/- Contracts of NextUp, in the program and in the reference. Conditions: slices below 2^40 elements. -/
import Derived.Test.YtogglhgagblihaaZTimes3
set_option linter.unusedVariables false
set_option linter.unusedSimpArgs false
set_option maxRecDepth 100000
namespace Go.Proofs.Ytogglhgagblihaa
open Go.RowKit
def upAt (S : List Int) (t : Int) (j : Nat) : Bool := decide (t < S[j]?.getD 0)
def upR (l : List (Int × Int)) (a b c gap t : Int) : Nat × Bool := if iceOk l a b c gap t then firstIdx (upAt (runS l a b c gap 0 0) t) l.length else (0, false)
def upB (l : List (Int × Int)) (a b c gap t : Int) : Bool := (upR l a b c gap t).2
def upV (l : List (Int × Int)) (a b c gap t : Int) : Int := if upB l a b c gap t then (l[(upR l a b c gap t).1]?.getD (0, 0)).1 else 0
section
variable {l : List (Int × Int)} {a b c gap t : Int}
theorem up_no (h : iceOk l a b c gap t = false) : upV l a b c gap t = 0 ∧ upB l a b c gap t = false := by simp [upV, upB, upR, h]
theorem up_hit {k n : Nat} (hl : l.length = n) (h : iceOk l a b c gap t = true) (hk : k < n) (hb : ∀ j, j < k → Hid (upAt (runS l a b c gap 0 0) t j = false)) (hh : upAt (runS l a b c gap 0 0) t k = true) : upV l a b c gap t = (l[k]?.getD (0, 0)).1 ∧ upB l a b c gap t = true := by
  have := firstIdx_hit (n := l.length) (by omega) hb hh
  simp [upV, upB, upR, h, this]
theorem up_none {n : Nat} (hl : l.length = n) (h : iceOk l a b c gap t = true) (hb : ∀ j, j < n → Hid (upAt (runS l a b c gap 0 0) t j = false)) : upV l a b c gap t = 0 ∧ upB l a b c gap t = false := by
  have := firstIdx_none (p := upAt (runS l a b c gap 0 0) t) (n := l.length) (fun j hj => hb j (by omega))
  simp [upV, upB, upR, h, this]
theorem up_more {S : List Int} {k : Nat} (hb : ∀ j, j < k → Hid (upAt S t j = false)) (h : upAt S t k = false) : ∀ j, j < k + 1 → Hid (upAt S t j = false) := fun j hj => by
  by_cases e : j = k
  · subst e; exact h
  · exact hb j (by omega)
end
set_option maxHeartbeats 1000000 in
theorem specNextUp_any (w : World) (L : Option Addr) (n cl : Nat) (l : List (Int × Int)) (a b c gap t : Int) (hl : RdS w L n l) (hn : n ≤ 1099511627776) :
    Calls Try.prog 40 #[.slice L n cl, .agg #[.int .i64 a, .int .i64 b, .int .i64 c, .int .i64 gap], .int .i64 t] w (RetIntB w (upV l a b c gap t) (upB l a b c gap t)) := by
  have Hl := Lib.hid hl.len
  cases hk : iceOk l a b c gap t
  · have hno := up_no hk
    rw [hno.1, hno.2]
    clear hno
    unfold iceOk at hk
    go_enter Try.func40, Try.ntmps40
    go_wp2_with (first | (go_at_call 63; ((with_reducible refine (tiGood_any _ _ _ _ _ _ _ _ _ (hl.below (bAlloc (Below.refl _ _) _)) hn).mono ?_); rintro e w' ⟨rfl, x, rfl⟩)) | (go_at_call 70; ((with_reducible refine (tiClock_any _ _).mono ?_); rintro e w' ⟨rfl, rfl⟩)))
    all_goals first | (go_ret2; exact RetIntB.mk_ rfl rfl (by repeat (first | exact Below.refl _ _ | assumption | refine bExt ?_ _ | refine bAlloc ?_ _ | refine bDrewN ?_ _ | refine bDrew ?_ | refine bSet ?_ (by first | exact Nat.le_refl _ | omega | (simp; done) | (simp; omega)) _))) | (exfalso; simp_all)
  · have Hk := Lib.hid hk
    simp only [iceOk, Bool.and_eq_true] at hk
    obtain ⟨ht, htt⟩ := hk
    have h12 := timedB_of ht
    obtain ⟨h1, h2⟩ := h12
    have htb := inB_iff.1 htt
    have hb1 : 1 ≤ b := by simp only [dayB, Bool.and_eq_true] at h2; exact (inB_iff.1 h2.1.1.2).1
    have hSl := runS_len (a := a) (c := c) (gap := gap) (i := 0) (delay := 0) h1 hb1
    have hn40 := (slotsB_of h1).2.2
    rw [Hl.out] at hSl hn40
    have HZ := Lib.hid (runS_zero l a b c gap (-1) 0)
    go_enter Try.func40, Try.ntmps40
    go_wp2_with (first | (go_at_call 63; ((with_reducible refine (tiGood_any _ _ _ _ _ _ _ _ _ (hl.below (bAlloc (Below.refl _ _) _)) hn).mono ?_); rintro e w' ⟨rfl, x, rfl⟩)) | (go_at_call 70; ((with_reducible refine (tiClock_any _ _).mono ?_); rintro e w' ⟨rfl, rfl⟩)) | (go_at_call 64; ((with_reducible refine (tiRun_any _ _ _ _ _ _ _ _ _ _ _ (hl.below (by repeat (first | exact Below.refl _ _ | assumption | refine bExt ?_ _ | refine bAlloc ?_ _ | refine bDrewN ?_ _ | refine bDrew ?_ | refine bSet ?_ (by first | exact Nat.le_refl _ | omega | (simp; done) | (simp; omega)) _))) h1 h2 (by omega) (by omega)).mono ?_); rintro e w' ⟨A, n1, c1, B, m1, d1, x, rfl, rfl, oA, oB⟩)))
    rw [HZ.out] at oA
    obtain rfl : n1 = n := oA.len.symm.trans hSl
    have hrA := oA.rd
    clear oB
    obtain ⟨SV, hSv⟩ : ∃ SV, runS l a b c gap 0 0 = SV := ⟨_, rfl⟩
    rw [hSv] at hrA hSl
    have HSv := Lib.hid hSv
    clear hSv
    go_loop [31] (fun i => ∃ k : Nat, k ≤ n1 ∧ i = .int .i64 k ∧ ∀ j, j < k → Hid (upAt SV t j = false)) (fun i => n1 - (intOf i).toNat)
    case atStart => exact ⟨0, by omega, rfl, fun j hj => by omega⟩
    case round =>
      obtain ⟨k, hk, rfl, hok⟩ := hrel
      by_cases hlt : k < n1
      · obtain ⟨b1, o1, rfl, hb1, hc1⟩ := hrA.open_ (by omega)
        obtain ⟨b2, o2, rfl, hb2, hm0, hm1⟩ := hl.at_ k hlt
        have hce := hc1 k hlt
        clear hc1
        rw [List.getD_eq_getElem?_getD] at hce
        have Hat := Lib.hid (show upAt SV t k = decide (t < SV[k]?.getD 0) from rfl)
        generalize SV[k]?.getD 0 = s at *
        by_cases hh : t < s
        · have hhit := Lib.hid (up_hit Hl.out Hk.out hlt (fun j hj => by rw [HSv.out]; exact hok j hj) (by rw [HSv.out, Hat.out]; simpa using hh))
          go_wp2
          go_ret2
          exact RetIntB.mk_ hhit.out.1.symm hhit.out.2.symm (by repeat (first | exact Below.refl _ _ | assumption | refine bExt ?_ _ | refine bAlloc ?_ _ | refine bDrewN ?_ _ | refine bDrew ?_ | refine bSet ?_ (by first | exact Nat.le_refl _ | omega | (simp; done) | (simp; omega)) _))
        · have Hno := Lib.hid (show upAt SV t k = false by rw [Hat.out]; simpa using hh)
          go_wp2
          go_round
          case rel => exact ⟨k + 1, by omega, by go_num, up_more hok Hno.out⟩
          case measure => simp [intOf]; omega
      · have hno := Lib.hid (up_none Hl.out Hk.out (fun j hj => by rw [HSv.out]; exact hok j (by omega)))
        go_wp2
        go_ret2
        exact RetIntB.mk_ hno.out.1.symm hno.out.2.symm (by repeat (first | exact Below.refl _ _ | assumption | refine bExt ?_ _ | refine bAlloc ?_ _ | refine bDrewN ?_ _ | refine bDrew ?_ | refine bSet ?_ (by first | exact Nat.le_refl _ | omega | (simp; done) | (simp; omega)) _))
set_option maxHeartbeats 1000000 in
theorem implNextUp_any (w : World) (L : Option Addr) (n cl : Nat) (l : List (Int × Int)) (a b c gap t : Int) (hl : RdS w L n l) (hn : n ≤ 1099511627776) (hnc : n ≤ cl) :
    Calls Try.prog 39 #[.slice L n cl, .agg #[.int .i64 a, .int .i64 b, .int .i64 c, .int .i64 gap], .int .i64 t] w (RetIntB w (upV l a b c gap t) (upB l a b c gap t)) := by
  have Hl := Lib.hid hl.len
  cases hk : iceOk l a b c gap t
  · have hno := up_no hk
    rw [hno.1, hno.2]
    clear hno
    unfold iceOk at hk
    go_enter Try.func39, Try.ntmps39
    go_wp2_with (first | (go_at_call 61; ((with_reducible refine (areTimed_any _ _ _ _ _ _ _ _ _ (hl.below (bAlloc (Below.refl _ _) _)) hn hnc).mono ?_); rintro e w' ⟨rfl, x, rfl⟩)) | (go_at_call 69; ((with_reducible refine (isDayTime_any _ _).mono ?_); rintro e w' ⟨rfl, rfl⟩)))
    all_goals first | (go_ret2; exact RetIntB.mk_ rfl rfl (by repeat (first | exact Below.refl _ _ | assumption | refine bExt ?_ _ | refine bAlloc ?_ _ | refine bDrewN ?_ _ | refine bDrew ?_ | refine bSet ?_ (by first | exact Nat.le_refl _ | omega | (simp; done) | (simp; omega)) _))) | (exfalso; simp_all)
  · have Hk := Lib.hid hk
    simp only [iceOk, Bool.and_eq_true] at hk
    obtain ⟨ht, htt⟩ := hk
    have h12 := timedB_of ht
    obtain ⟨h1, h2⟩ := h12
    have htb := inB_iff.1 htt
    have hb1 : 1 ≤ b := by simp only [dayB, Bool.and_eq_true] at h2; exact (inB_iff.1 h2.1.1.2).1
    have hSl := runS_len (a := a) (c := c) (gap := gap) (i := 0) (delay := 0) h1 hb1
    have hn40 := (slotsB_of h1).2.2
    rw [Hl.out] at hSl hn40
    have HZ := Lib.hid (runS_zero l a b c gap (-1) 0)
    go_enter Try.func39, Try.ntmps39
    go_wp2_with (first | (go_at_call 61; ((with_reducible refine (areTimed_any _ _ _ _ _ _ _ _ _ (hl.below (bAlloc (Below.refl _ _) _)) hn hnc).mono ?_); rintro e w' ⟨rfl, x, rfl⟩)) | (go_at_call 69; ((with_reducible refine (isDayTime_any _ _).mono ?_); rintro e w' ⟨rfl, rfl⟩)) | (go_at_call 62; ((with_reducible refine (timesOfDay_any _ _ _ _ _ _ _ _ _ _ _ (hl.below (by repeat (first | exact Below.refl _ _ | assumption | refine bExt ?_ _ | refine bAlloc ?_ _ | refine bDrewN ?_ _ | refine bDrew ?_ | refine bSet ?_ (by first | exact Nat.le_refl _ | omega | (simp; done) | (simp; omega)) _))) h1 h2 (by omega) (by omega)).mono ?_); rintro e w' ⟨A, n1, c1, B, m1, d1, x, rfl, rfl, oA, oB⟩)))
    obtain rfl : n1 = n := oA.len.symm.trans hSl
    have hrA := oA.rd
    clear oB
    obtain ⟨SV, hSv⟩ : ∃ SV, runS l a b c gap 0 0 = SV := ⟨_, rfl⟩
    rw [hSv] at hrA hSl
    have HSv := Lib.hid hSv
    clear hSv
    go_loop [31] (fun i => ∃ k : Nat, k ≤ n1 ∧ i = .int .i64 k ∧ ∀ j, j < k → Hid (upAt SV t j = false)) (fun i => n1 - (intOf i).toNat)
    case atStart => exact ⟨0, by omega, rfl, fun j hj => by omega⟩
    case round =>
      obtain ⟨k, hk, rfl, hok⟩ := hrel
      by_cases hlt : k < n1
      · obtain ⟨b1, o1, rfl, hb1, hc1⟩ := hrA.open_ (by omega)
        obtain ⟨b2, o2, rfl, hb2, hm0, hm1⟩ := hl.at_ k hlt
        have hce := hc1 k hlt
        clear hc1
        rw [List.getD_eq_getElem?_getD] at hce
        have Hat := Lib.hid (show upAt SV t k = decide (t < SV[k]?.getD 0) from rfl)
        generalize SV[k]?.getD 0 = s at *
        by_cases hh : t < s
        · have hhit := Lib.hid (up_hit Hl.out Hk.out hlt (fun j hj => by rw [HSv.out]; exact hok j hj) (by rw [HSv.out, Hat.out]; simpa using hh))
          go_wp2
          go_ret2
          exact RetIntB.mk_ hhit.out.1.symm hhit.out.2.symm (by repeat (first | exact Below.refl _ _ | assumption | refine bExt ?_ _ | refine bAlloc ?_ _ | refine bDrewN ?_ _ | refine bDrew ?_ | refine bSet ?_ (by first | exact Nat.le_refl _ | omega | (simp; done) | (simp; omega)) _))
        · have Hno := Lib.hid (show upAt SV t k = false by rw [Hat.out]; simpa using hh)
          go_wp2
          go_round
          case rel => exact ⟨k + 1, by omega, by go_num, up_more hok Hno.out⟩
          case measure => simp [intOf]; omega
      · have hno := Lib.hid (up_none Hl.out Hk.out (fun j hj => by rw [HSv.out]; exact hok j (by omega)))
        go_wp2
        go_ret2
        exact RetIntB.mk_ hno.out.1.symm hno.out.2.symm (by repeat (first | exact Below.refl _ _ | assumption | refine bExt ?_ _ | refine bAlloc ?_ _ | refine bDrewN ?_ _ | refine bDrew ?_ | refine bSet ?_ (by first | exact Nat.le_refl _ | omega | (simp; done) | (simp; omega)) _))
end Go.Proofs.Ytogglhgagblihaa
