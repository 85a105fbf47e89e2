/- Contracts of StartTimes, WarmUpTimes and DelayedTimes, in the program and in the reference. Conditions: slices below 2^40 elements. -/
import Derived.Test.YtdmaildajmhicaaTimes
set_option linter.unusedVariables false
set_option linter.unusedSimpArgs false
set_option maxRecDepth 100000
namespace Go.Proofs.Ytdmaildajmhicaa
open Go.RowKit
theorem ext_le2 {w W : World} (h : Below w.heap.size w W) : w.heap.size ≤ W.heap.size := h.size
def startsV (l : List (Int × Int)) (a b c gap : Int) : List Int := if timedB l a b c gap then runS l a b c gap 0 0 else []
def warmsV (l : List (Int × Int)) (a b c gap : Int) : List Int := if timedB l a b c gap then runW l a b c gap 0 0 else []
def delayOk (l : List (Int × Int)) (a b c gap i delay : Int) : Bool := timedB l a b c gap && inB i 0 ((l.length : Int) - 1) && inB delay 0 3600
def delayedV (l : List (Int × Int)) (a b c gap i delay : Int) : List Int := if delayOk l a b c gap i delay then runS l a b c gap i delay else []
theorem startsV_len (l : List (Int × Int)) (a b c gap : Int) : (startsV l a b c gap).length ≤ 40 := by
  unfold startsV
  split
  · rename_i h
    obtain ⟨h1, h2⟩ := timedB_of h
    simp only [dayB, Bool.and_eq_true] at h2
    rw [runS_len h1 (inB_iff.1 h2.1.1.2).1]
    exact (slotsB_of h1).2.2
  · simp
theorem delayedV_len (l : List (Int × Int)) (a b c gap i delay : Int) : (delayedV l a b c gap i delay).length ≤ 40 := by
  unfold delayedV
  split
  · rename_i h
    simp only [delayOk, Bool.and_eq_true] at h
    obtain ⟨h1, h2⟩ := timedB_of h.1.1
    simp only [dayB, Bool.and_eq_true] at h2
    rw [runS_len h1 (inB_iff.1 h2.1.1.2).1]
    exact (slotsB_of h1).2.2
  · simp
theorem warmsV_len (l : List (Int × Int)) (a b c gap : Int) : (warmsV l a b c gap).length ≤ 40 := by
  unfold warmsV
  split
  · rename_i h
    obtain ⟨h1, h2⟩ := timedB_of h
    simp only [dayB, Bool.and_eq_true] at h2
    have h3 := slotsB_of h1
    have := groupsOf_len l.length b (by omega) (inB_iff.1 h2.1.1.2).1
    unfold runW
    rw [outW_len]
    omega
  · simp
end Go.Proofs.Ytdmaildajmhicaa
