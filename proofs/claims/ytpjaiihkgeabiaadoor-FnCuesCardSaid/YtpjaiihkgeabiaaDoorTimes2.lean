/- Contracts of StartTimes, WarmUpTimes and DelayedTimes, in the program and in the reference. Conditions: slices below 2^40 elements. -/
import Derived.Test.YtpjaiihkgeabiaaDoorTimes
set_option linter.unusedVariables false
set_option linter.unusedSimpArgs false
set_option maxRecDepth 100000
namespace Go.Proofs.YtpjaiihkgeabiaaDoor
open Go.RowKit
theorem ext_le2 {w W : World} (h : Below w.heap.size w W) : w.heap.size ≤ W.heap.size := h.size
def startsV (l : List (Int × Int)) (a b c gap : Int) : List Int := if timedB l a b c gap then runS l a b c gap 0 0 else []
def warmsV (l : List (Int × Int)) (a b c gap : Int) : List Int := if timedB l a b c gap then runW l a b c gap 0 0 else []
def delayOk (l : List (Int × Int)) (a b c gap i delay : Int) : Bool := timedB l a b c gap && inB i 0 ((l.length : Int) - 1) && inB delay 0 3600
def delayedV (l : List (Int × Int)) (a b c gap i delay : Int) : List Int := if delayOk l a b c gap i delay then runS l a b c gap i delay else []
theorem startsV_len (l : List (Int × Int)) (a b c gap : Int) : (startsV l a b c gap).length ≤ 40 := by
  unfold startsV
  split
  · rename_i h
    obtain ⟨h1, h2⟩ := timedB_of h
    simp only [dayB, Bool.and_eq_true] at h2
    rw [runS_len h1 (inB_iff.1 h2.1.1.2).1]
    exact (slotsB_of h1).2.2
  · simp
theorem delayedV_len (l : List (Int × Int)) (a b c gap i delay : Int) : (delayedV l a b c gap i delay).length ≤ 40 := by
  unfold delayedV
  split
  · rename_i h
    simp only [delayOk, Bool.and_eq_true] at h
    obtain ⟨h1, h2⟩ := timedB_of h.1.1
    simp only [dayB, Bool.and_eq_true] at h2
    rw [runS_len h1 (inB_iff.1 h2.1.1.2).1]
    exact (slotsB_of h1).2.2
  · simp
theorem warmsV_len (l : List (Int × Int)) (a b c gap : Int) : (warmsV l a b c gap).length ≤ 40 := by
  unfold warmsV
  split
  · rename_i h
    obtain ⟨h1, h2⟩ := timedB_of h
    simp only [dayB, Bool.and_eq_true] at h2
    have h3 := slotsB_of h1
    have := groupsOf_len l.length b (by omega) (inB_iff.1 h2.1.1.2).1
    unfold runW
    rw [outW_len]
    omega
  · simp
theorem specWarmUpTimes_any (w : World) (L : Option Addr) (n cl : Nat) (l : List (Int × Int)) (a b c gap : Int) (hl : RdS w L n l) (hn : n ≤ 1099511627776) :
    Calls Tryd.prog 32 #[.slice L n cl, .agg #[.int .i64 a, .int .i64 b, .int .i64 c, .int .i64 gap]] w (RetIB w (warmsV l a b c gap) (timedB l a b c gap)) := by
  unfold warmsV
  cases ht : timedB l a b c gap
  · go_enter Tryd.func32, Tryd.ntmps32
    go_wp2_with (first | (go_at_call 75; ((with_reducible refine (tiGood_any _ _ _ _ _ _ _ _ _ (hl.below (bAlloc (Below.refl _ _) _)) hn).mono ?_); rintro e w' ⟨rfl, x, rfl⟩)))
    go_ret2
    exact RetIB.mk_ OwI.nil_ (Nat.le_refl _) (by repeat (first | exact Below.refl _ _ | assumption | refine bExt ?_ _ | refine bAlloc ?_ _ | refine bDrewN ?_ _ | refine bDrew ?_ | refine bSet ?_ (by first | exact Nat.le_refl _ | omega | (simp; done) | (simp; omega)) _))
  · have h12 := timedB_of ht
    obtain ⟨h1, h2⟩ := h12
    rw [runW_zero l a b c gap 0 (-1)]
    go_enter Tryd.func32, Tryd.ntmps32
    go_wp2_with (first | (go_at_call 75; ((with_reducible refine (tiGood_any _ _ _ _ _ _ _ _ _ (hl.below (bAlloc (Below.refl _ _) _)) hn).mono ?_); rintro e w' ⟨rfl, x, rfl⟩)) | (go_at_call 78; ((with_reducible refine (tiRun_any _ _ _ _ _ _ _ _ _ _ _ (hl.below (by repeat (first | exact Below.refl _ _ | assumption | refine bExt ?_ _ | refine bAlloc ?_ _ | refine bDrewN ?_ _ | refine bDrew ?_ | refine bSet ?_ (by first | exact Nat.le_refl _ | omega | (simp; done) | (simp; omega)) _))) h1 h2 (by omega) (by omega)).mono ?_); rintro e w' ⟨A, n1, c1, B, m1, d1, x, rfl, rfl, oA, oB⟩)))
    go_ret2
    exact RetIB.mk_ oB (ext_le2 (by repeat (first | exact Below.refl _ _ | assumption | refine bExt ?_ _ | refine bAlloc ?_ _ | refine bDrewN ?_ _ | refine bDrew ?_ | refine bSet ?_ (by first | exact Nat.le_refl _ | omega | (simp; done) | (simp; omega)) _))) (by repeat (first | exact Below.refl _ _ | assumption | refine bExt ?_ _ | refine bAlloc ?_ _ | refine bDrewN ?_ _ | refine bDrew ?_ | refine bSet ?_ (by first | exact Nat.le_refl _ | omega | (simp; done) | (simp; omega)) _))
theorem implWarmUpTimes_any (w : World) (L : Option Addr) (n cl : Nat) (l : List (Int × Int)) (a b c gap : Int) (hl : RdS w L n l) (hn : n ≤ 1099511627776) (hnc : n ≤ cl) :
    Calls Tryd.prog 31 #[.slice L n cl, .agg #[.int .i64 a, .int .i64 b, .int .i64 c, .int .i64 gap]] w (RetIB w (warmsV l a b c gap) (timedB l a b c gap)) := by
  unfold warmsV
  cases ht : timedB l a b c gap
  · go_enter Tryd.func31, Tryd.ntmps31
    go_wp2_with (first | (go_at_call 73; ((with_reducible refine (areTimed_any _ _ _ _ _ _ _ _ _ (hl.below (bAlloc (Below.refl _ _) _)) hn hnc).mono ?_); rintro e w' ⟨rfl, x, rfl⟩)))
    go_ret2
    exact RetIB.mk_ OwI.nil_ (Nat.le_refl _) (by repeat (first | exact Below.refl _ _ | assumption | refine bExt ?_ _ | refine bAlloc ?_ _ | refine bDrewN ?_ _ | refine bDrew ?_ | refine bSet ?_ (by first | exact Nat.le_refl _ | omega | (simp; done) | (simp; omega)) _))
  · have h12 := timedB_of ht
    obtain ⟨h1, h2⟩ := h12
    rw [runW_zero l a b c gap 0 0]
    go_enter Tryd.func31, Tryd.ntmps31
    go_wp2_with (first | (go_at_call 73; ((with_reducible refine (areTimed_any _ _ _ _ _ _ _ _ _ (hl.below (bAlloc (Below.refl _ _) _)) hn hnc).mono ?_); rintro e w' ⟨rfl, x, rfl⟩)) | (go_at_call 77; ((with_reducible refine (timesOfDay_any _ _ _ _ _ _ _ _ _ _ _ (hl.below (by repeat (first | exact Below.refl _ _ | assumption | refine bExt ?_ _ | refine bAlloc ?_ _ | refine bDrewN ?_ _ | refine bDrew ?_ | refine bSet ?_ (by first | exact Nat.le_refl _ | omega | (simp; done) | (simp; omega)) _))) h1 h2 (by omega) (by omega)).mono ?_); rintro e w' ⟨A, n1, c1, B, m1, d1, x, rfl, rfl, oA, oB⟩)))
    go_ret2
    exact RetIB.mk_ oB (ext_le2 (by repeat (first | exact Below.refl _ _ | assumption | refine bExt ?_ _ | refine bAlloc ?_ _ | refine bDrewN ?_ _ | refine bDrew ?_ | refine bSet ?_ (by first | exact Nat.le_refl _ | omega | (simp; done) | (simp; omega)) _))) (by repeat (first | exact Below.refl _ _ | assumption | refine bExt ?_ _ | refine bAlloc ?_ _ | refine bDrewN ?_ _ | refine bDrew ?_ | refine bSet ?_ (by first | exact Nat.le_refl _ | omega | (simp; done) | (simp; omega)) _))
end Go.Proofs.YtpjaiihkgeabiaaDoor
