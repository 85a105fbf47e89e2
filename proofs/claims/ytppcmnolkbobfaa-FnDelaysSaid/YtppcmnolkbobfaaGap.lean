/- Contracts of GreatestGap, in the program and in the reference. Conditions: slices below 2^40 elements. -/
import Derived.Test.YtppcmnolkbobfaaTimes3
import Derived.Deep.LoopGhost
set_option linter.unusedVariables false
set_option linter.unusedSimpArgs false
set_option maxRecDepth 100000
namespace Go.Proofs.Ytppcmnolkbobfaa
open Go.RowKit
section
variable (l : List (Int × Int)) (a b c gap : Int)
theorem innT_gap (k0 : Nat) (t0 x : Int) (j : Nat) : innT l gap 0 0 k0 (t0 + x) j = innT l 0 0 0 k0 t0 j + x + j * gap := by
  induction j with
  | zero => simp [innT]
  | succ j ih =>
    rw [innT, innT, ih]
    unfold nxtT
    have e : ((j + 1 : Nat) : Int) * gap = j * gap + gap := by rw [Int.natCast_add, Int.add_mul]; simp
    rw [e]
    split <;> omega
theorem outT_gap (gs : List Int) (g : Nat) (h : g ≤ gs.length) : outT l a c gap 0 0 gs g = outT l a c 0 0 0 gs g + outK gs g * gap := by
  induction g with
  | zero => simp [outT, outK]
  | succ g ih =>
    have e1 : outT l a c 0 0 0 gs g + outK gs g * gap + c = outT l a c 0 0 0 gs g + c + outK gs g * gap := by omega
    rw [outT, outT, ih (by omega), e1, innT_gap, outK_succ gs g (by omega), Int.natCast_add, Int.add_mul]
    omega
theorem runT_gap (hb : 1 ≤ b) (hn : 1 ≤ l.length) : runT l a b c gap 0 0 = runT l a b c 0 0 0 + l.length * gap := by
  unfold runT
  rw [outT_gap l a c gap _ _ (Nat.le_refl _)]
  have := groups_all l.length b (by omega) hb
  rw [this]
end
def gapOk (l : List (Int × Int)) (a b c gap e : Int) : Bool := timedB l a b c gap && inB e 0 200000
def gapB (l : List (Int × Int)) (a b c gap e : Int) : Bool := gapOk l a b c gap e && decide (runT l a b c 0 0 0 ≤ e)
def gapV (l : List (Int × Int)) (a b c gap e : Int) : Int := if gapB l a b c gap e then min 300 ((e - runT l a b c 0 0 0) / l.length) else 0
theorem gap_no1 {l : List (Int × Int)} {a b c gap e : Int} (h : gapOk l a b c gap e = false) : gapV l a b c gap e = 0 ∧ gapB l a b c gap e = false := by simp [gapV, gapB, h]
theorem gap_no2 {l : List (Int × Int)} {a b c gap e : Int} (h : e < runT l a b c 0 0 0) : gapV l a b c gap e = 0 ∧ gapB l a b c gap e = false := by
  have : gapB l a b c gap e = false := by unfold gapB; simp; omega
  simp [gapV, this]
theorem gap_yes {l : List (Int × Int)} {a b c gap e : Int} (h : gapOk l a b c gap e = true) (h2 : runT l a b c 0 0 0 ≤ e) : gapV l a b c gap e = min 300 ((e - runT l a b c 0 0 0) / l.length) ∧ gapB l a b c gap e = true := by
  have : gapB l a b c gap e = true := by unfold gapB; simp [h, h2]
  simp [gapV, this]
theorem gap_hit {l : List (Int × Int)} {a b c gap e g : Int} (h : gapOk l a b c gap e = true) (hg0 : 0 ≤ g) (hg1 : g ≤ 300) (hb : 1 ≤ b) (hn : 1 ≤ l.length) (hh : runT l a b c g 0 0 ≤ e) (hno : ∀ g', g < g' → g' ≤ 300 → e < runT l a b c g' 0 0) : gapV l a b c gap e = g ∧ gapB l a b c gap e = true := by
  rw [runT_gap l a b c g hb hn] at hh
  have hmul : 0 ≤ (l.length : Int) * g := Int.mul_nonneg (by omega) hg0
  have hy := gap_yes h (by omega)
  refine ⟨?_, hy.2⟩
  rw [hy.1]
  have hge : g ≤ (e - runT l a b c 0 0 0) / l.length := (Int.le_ediv_iff_mul_le (by omega)).2 (by rw [Int.mul_comm]; omega)
  by_cases e300 : g = 300
  · omega
  · have := hno (g + 1) (by omega) (by omega)
    rw [runT_gap l a b c (g + 1) hb hn, Int.mul_add] at this
    have hlt : (e - runT l a b c 0 0 0) / l.length < g + 1 := (Int.ediv_lt_iff_lt_mul (by omega)).2 (by rw [Int.mul_comm, Int.mul_add]; omega)
    omega
theorem timedB_gap {l : List (Int × Int)} {a b c gap g : Int} (h : timedB l a b c gap = true) (h0 : 0 ≤ g) (h1 : g ≤ 300) : timedB l a b c g = true := by
  obtain ⟨h2, h3⟩ := timedB_of h
  simp only [dayB, Bool.and_eq_true] at h3
  have : inB g 0 300 = true := inB_iff.2 ⟨h0, h1⟩
  simp [timedB, dayB, h2, h3.1.1.1, h3.1.1.2, h3.1.2, this]
theorem ext_setbox (w x : World) (cs : Array Value) (ty j : Nat) (v : Value) : (ext (w.alloc (.cells cs ty)) x).setCell ⟨w.heap.size, j, none⟩ v = ext (w.alloc (.cells (cs.setIfInBounds j v) ty)) x := by
  unfold ext World.setCell World.alloc
  simp only [World.mk.injEq, and_true, true_and]
  apply Array.ext_getElem?
  intro i
  rw [Array.getElem?_modify]
  simp only [Array.getElem?_append, Array.getElem?_push, Array.size_push]
  by_cases h1 : i < w.heap.size
  · have n1 : ¬ w.heap.size = i := by omega
    have n2 : i < w.heap.size + 1 := by omega
    have n3 : ¬ i = w.heap.size := by omega
    simp [n1, n2, n3]
  · by_cases h2 : w.heap.size = i
    · subst h2; simp
    · rw [if_neg h2, if_neg (by omega), if_neg (by omega)]
theorem ext_ext (w x y : World) : ext (ext w x) y = ext w (ext x y) := by unfold ext; simp [Array.append_assoc]
theorem ext_setbox2 (w x y : World) (cs : Array Value) (ty j : Nat) (v : Value) : (ext (ext (w.alloc (.cells cs ty)) x) y).setCell ⟨w.heap.size, j, none⟩ v = ext (w.alloc (.cells (cs.setIfInBounds j v) ty)) (ext x y) := by
  rw [ext_ext, ext_setbox]
theorem gap_more {l : List (Int × Int)} {a b c t g : Int} (hno : ∀ g', g < g' → g' ≤ 300 → Hid (t < runT l a b c g' 0 0)) (h : t < runT l a b c g 0 0) : ∀ g', g - 1 < g' → g' ≤ 300 → Hid (t < runT l a b c g' 0 0) := fun g' h1 h2 => by
  by_cases e : g' = g
  · subst e; exact h
  · exact hno g' (by omega) h2
set_option maxHeartbeats 1000000 in
theorem specGreatestGap_any (w : World) (L : Option Addr) (n cl : Nat) (l : List (Int × Int)) (a b c gap t : Int) (hl : RdS w L n l) (hn : n ≤ 1099511627776) :
    Calls Try.prog 62 #[.slice L n cl, .agg #[.int .i64 a, .int .i64 b, .int .i64 c, .int .i64 gap], .int .i64 t] w (RetIntB w (gapV l a b c gap t) (gapB l a b c gap t)) := by
  have Hl := Lib.hid hl.len
  cases hk : gapOk l a b c gap t
  · have hno := gap_no1 hk
    rw [hno.1, hno.2]
    clear hno
    unfold gapOk at hk
    go_enter Try.func62, Try.ntmps62
    go_wp2_with (first | (go_at_call 127; ((with_reducible refine (tiGood_any _ _ _ _ _ _ _ _ _ (hl.below (bAlloc (Below.refl _ _) _)) hn).mono ?_); rintro e w' ⟨rfl, x, rfl⟩)) | (go_at_call 131; ((with_reducible refine (tiClock_any _ _).mono ?_); rintro e w' ⟨rfl, rfl⟩)))
    all_goals first | (go_ret2; exact RetIntB.mk_ rfl rfl (by repeat (first | exact Below.refl _ _ | assumption | refine bExt ?_ _ | refine bAlloc ?_ _ | refine bDrewN ?_ _ | refine bDrew ?_ | refine bSet ?_ (by first | exact Nat.le_refl _ | omega | (simp; done) | (simp; omega)) _))) | (exfalso; simp_all)
  · have Hk := Lib.hid hk
    simp only [gapOk, Bool.and_eq_true] at hk
    obtain ⟨ht, htt⟩ := hk
    have htb := inB_iff.1 htt
    have ht0 := timedB_gap (g := 0) ht (Int.le_refl 0) (by omega)
    have hn1 := (slotsB_of (timedB_of ht).1).2
    have hT := runT_bd (i := 0) ht0 (Int.le_refl 0) (by omega)
    rw [Hl.out] at hn1
    by_cases hlt : t < runT l a b c 0 0 0
    · have Hno := Lib.hid (gap_no2 (gap := gap) hlt)
      have hd : t - runT l a b c 0 0 0 < 0 := by omega
      go_enter Try.func62, Try.ntmps62
      go_wp2_with (first | (go_at_call 127; ((with_reducible refine (tiGood_any _ _ _ _ _ _ _ _ _ (hl.below (bAlloc (Below.refl _ _) _)) hn).mono ?_); rintro e w' ⟨rfl, x, rfl⟩)) | (go_at_call 131; ((with_reducible refine (tiClock_any _ _).mono ?_); rintro e w' ⟨rfl, rfl⟩)) | (go_at_call 129; ((with_reducible refine (tiEnd_any _ _ _ _ _ _ _ _ _ (hl.below (by repeat (first | exact Below.refl _ _ | assumption | refine bExt ?_ _ | refine bAlloc ?_ _ | refine bDrewN ?_ _ | refine bDrew ?_ | refine bSet ?_ (by first | exact Nat.le_refl _ | omega | (simp; done) | (simp; omega)) _))) ht0).mono ?_); rintro e w' ⟨rfl, x, rfl⟩)))
      go_ret2
      exact RetIntB.mk_ Hno.out.1.symm Hno.out.2.symm (by repeat (first | exact Below.refl _ _ | assumption | refine bExt ?_ _ | refine bAlloc ?_ _ | refine bDrewN ?_ _ | refine bDrew ?_ | refine bSet ?_ (by first | exact Nat.le_refl _ | omega | (simp; done) | (simp; omega)) _))
    · have Hyes := Lib.hid (gap_yes Hk.out (show runT l a b c 0 0 0 ≤ t by omega))
      have hd : ¬ t - runT l a b c 0 0 0 < 0 := by omega
      have hd0 : 0 ≤ t - runT l a b c 0 0 0 := by omega
      go_enter Try.func62, Try.ntmps62
      go_wp2_with (first | (go_at_call 127; ((with_reducible refine (tiGood_any _ _ _ _ _ _ _ _ _ (hl.below (bAlloc (Below.refl _ _) _)) hn).mono ?_); rintro e w' ⟨rfl, x, rfl⟩)) | (go_at_call 131; ((with_reducible refine (tiClock_any _ _).mono ?_); rintro e w' ⟨rfl, rfl⟩)) | (go_at_call 129; ((with_reducible refine (tiEnd_any _ _ _ _ _ _ _ _ _ (hl.below (by repeat (first | exact Below.refl _ _ | assumption | refine bExt ?_ _ | refine bAlloc ?_ _ | refine bDrewN ?_ _ | refine bDrew ?_ | refine bSet ?_ (by first | exact Nat.le_refl _ | omega | (simp; done) | (simp; omega)) _))) ht0).mono ?_); rintro e w' ⟨rfl, x, rfl⟩)) | (go_at_call 140; ((with_reducible refine (l1Least_any _ _ _).mono ?_); rintro e w' ⟨rfl, rfl⟩)))
      go_ret2
      exact RetIntB.mk_ (by rw [Hyes.out.1, Hl.out]) Hyes.out.2.symm (by repeat (first | exact Below.refl _ _ | assumption | refine bExt ?_ _ | refine bAlloc ?_ _ | refine bDrewN ?_ _ | refine bDrew ?_ | refine bSet ?_ (by first | exact Nat.le_refl _ | omega | (simp; done) | (simp; omega)) _))
set_option maxHeartbeats 2000000 in
theorem implGreatestGap_any (w : World) (L : Option Addr) (n cl : Nat) (l : List (Int × Int)) (a b c gap t : Int) (hl : RdS w L n l) (hn : n ≤ 1099511627776) (hnc : n ≤ cl) :
    Calls Try.prog 61 #[.slice L n cl, .agg #[.int .i64 a, .int .i64 b, .int .i64 c, .int .i64 gap], .int .i64 t] w (RetIntB w (gapV l a b c gap t) (gapB l a b c gap t)) := by
  have Hl := Lib.hid hl.len
  cases hk : gapOk l a b c gap t
  · have hno := gap_no1 hk
    rw [hno.1, hno.2]
    clear hno
    unfold gapOk at hk
    go_enter Try.func61, Try.ntmps61
    go_wp2_with (first | (go_at_call 125; ((with_reducible refine (areTimed_any _ _ _ _ _ _ _ _ _ (hl.below (bAlloc (Below.refl _ _) _)) hn hnc).mono ?_); rintro e w' ⟨rfl, x, rfl⟩)) | (go_at_call 130; ((with_reducible refine (isDayTime_any _ _).mono ?_); rintro e w' ⟨rfl, rfl⟩)))
    all_goals first | (go_ret2; exact RetIntB.mk_ rfl rfl (by repeat (first | exact Below.refl _ _ | assumption | refine bExt ?_ _ | refine bAlloc ?_ _ | refine bDrewN ?_ _ | refine bDrew ?_ | refine bSet ?_ (by first | exact Nat.le_refl _ | omega | (simp; done) | (simp; omega)) _))) | (exfalso; simp_all)
  · have Hk := Lib.hid hk
    simp only [gapOk, Bool.and_eq_true] at hk
    obtain ⟨ht, htt⟩ := hk
    have Ht := Lib.hid ht
    have htb := inB_iff.1 htt
    have hb1 : 1 ≤ b := by have h2 := (timedB_of ht).2; simp only [dayB, Bool.and_eq_true] at h2; exact (inB_iff.1 h2.1.1.2).1
    have hn1 := (slotsB_of (timedB_of ht).1).2
    go_enter Try.func61, Try.ntmps61
    go_wp2_with (first | (go_at_call 125; ((with_reducible refine (areTimed_any _ _ _ _ _ _ _ _ _ (hl.below (bAlloc (Below.refl _ _) _)) hn hnc).mono ?_); rintro e w' ⟨rfl, x, rfl⟩)) | (go_at_call 130; ((with_reducible refine (isDayTime_any _ _).mono ?_); rintro e w' ⟨rfl, rfl⟩)))
    clear ht htt
    go_loopg [8, 9, 10] 301 (fun gk _ _ _ wr => ∃ (g : Int) (x : World), (gk : Int) - 1 ≤ g ∧ g ≤ (gk : Int) - 1 ∧ gk ≤ 301 ∧ wr = ext (w.alloc (.cells #[.int .i64 a, .int .i64 b, .int .i64 c, .int .i64 g] 56)) x ∧ ∀ g', g < g' → g' ≤ 300 → Hid (t < runT l a b c g' 0 0))
    case atStart => exact ⟨300, _, by omega, by omega, by omega, ext_setbox _ _ _ _ _ _, fun g' h1 h2 => by omega⟩
    case round =>
      obtain ⟨g, x, hg1, hg2, hg3, rfl, hno⟩ := hrel
      by_cases hg : 0 ≤ g
      · have htg := timedB_gap (g := g) Ht.out hg (by omega)
        have h12 := timedB_of htg
        obtain ⟨h1, h2⟩ := h12
        clear htg
        have hnc2 : ¬ g < 0 := by omega
        by_cases hle : runT l a b c g 0 0 ≤ t
        · have Hhit := Lib.hid (gap_hit Hk.out hg (by omega) hb1 hn1.1 hle (fun g' q1 q2 => (hno g' q1 q2).out))
          go_wp2_with (first | (go_at_call 126; ((with_reducible refine (timesOfDay_any _ _ _ _ _ _ _ _ _ _ _ (hl.below (by repeat (first | exact Below.refl _ _ | assumption | refine bExt ?_ _ | refine bAlloc ?_ _ | refine bDrewN ?_ _ | refine bDrew ?_ | refine bSet ?_ (by first | exact Nat.le_refl _ | omega | (simp; done) | (simp; omega)) _))) h1 h2 (by omega) (by omega)).mono ?_); rintro e w' ⟨A, n1, c1, B, m1, d1, y, rfl, rfl, oA, oB⟩)))
          go_ret2
          exact RetIntB.mk_ Hhit.out.1.symm Hhit.out.2.symm (by repeat (first | exact Below.refl _ _ | assumption | refine bExt ?_ _ | refine bAlloc ?_ _ | refine bDrewN ?_ _ | refine bDrew ?_ | refine bSet ?_ (by first | exact Nat.le_refl _ | omega | (simp; done) | (simp; omega)) _))
        · have hlt : t < runT l a b c g 0 0 := by omega
          go_wp2_with (first | (go_at_call 126; ((with_reducible refine (timesOfDay_any _ _ _ _ _ _ _ _ _ _ _ (hl.below (by repeat (first | exact Below.refl _ _ | assumption | refine bExt ?_ _ | refine bAlloc ?_ _ | refine bDrewN ?_ _ | refine bDrew ?_ | refine bSet ?_ (by first | exact Nat.le_refl _ | omega | (simp; done) | (simp; omega)) _))) h1 h2 (by omega) (by omega)).mono ?_); rintro e w' ⟨A, n1, c1, B, m1, d1, y, rfl, rfl, oA, oB⟩)))
          go_roundg (gk - 1)
          case measure => omega
          case rel => exact ⟨g - 1, _, by omega, by omega, by omega, ext_setbox2 _ _ _ _ _ _ _, gap_more hno hlt⟩
      · have Hno := Lib.hid (gap_no2 (gap := gap) (hno 0 (by omega) (by omega)).out)
        go_wp2
        go_ret2
        exact RetIntB.mk_ Hno.out.1.symm Hno.out.2.symm (by repeat (first | exact Below.refl _ _ | assumption | refine bExt ?_ _ | refine bAlloc ?_ _ | refine bDrewN ?_ _ | refine bDrew ?_ | refine bSet ?_ (by first | exact Nat.le_refl _ | omega | (simp; done) | (simp; omega)) _))
end Go.Proofs.Ytppcmnolkbobfaa
