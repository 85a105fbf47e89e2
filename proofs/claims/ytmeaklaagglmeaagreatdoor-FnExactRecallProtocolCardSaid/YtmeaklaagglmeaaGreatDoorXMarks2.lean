/- The law file's functions on slices of slices of ints and on Marks. Conditions: lengths below 2^40. -/
import Derived.Test.YtmeaklaagglmeaaGreatDoorXMarks
set_option linter.unusedVariables false
set_option linter.unusedSimpArgs false
set_option maxRecDepth 100000
namespace Go.Proofs.YtmeaklaagglmeaaGreatDoor
open Go.ChangeShapes Go.WideShapes Go.ChangeAt Go.RowKit
def szW (left T : Int) : Int := if left < T then -1 else left - T
theorem szIntS_any (w : World) (A : Option Addr) (n c : Nat) (left : Int) (hl : 0 ≤ left) (hl2 : left ≤ 1099511627776) (hn : n ≤ 9223372036854775807) :
  Calls Tryz.prog 48 #[.slice A n c, .int .i64 left] w fun e w' => e = .returned (.int .i64 (szW left n)) ∧ w = w' := by
 by_cases h : left < n
 ·
  have e1 : szW left n = -1 := by rw [szW, if_pos h]
  rw [e1]
  go_enter Tryz.func48, Tryz.ntmps48
  go_wp2
  go_ret
  exact ⟨rfl, rfl⟩
 ·
  have e1 : szW left n = left - n := by rw [szW, if_neg h]
  rw [e1]
  go_enter Tryz.func48, Tryz.ntmps48
  go_wp2
  go_ret
  exact ⟨rfl, rfl⟩
def lenSum (ll : List (List Int)) : Int := (ll.map fun l => (l.length : Int)).sum
theorem lenSum_succ (ll : List (List Int)) (k : Nat) (h : k < ll.length) : lenSum (ll.take (k + 1)) = lenSum (ll.take k) + ((ll[k]?.getD []).length : Int) := by
 unfold lenSum; rw [take_succ_getD [] ll k h]; simp
theorem lenSum_nonneg (ll : List (List Int)) : 0 ≤ lenSum ll := by
 unfold lenSum
 induction ll with
 | nil => simp
 | cons a r ih => simp only [List.map_cons, List.sum_cons]; omega
theorem lenSum_mono (ll : List (List Int)) (k : Nat) : lenSum (ll.take k) ≤ lenSum ll := by
 have h : ll.take k ++ ll.drop k = ll := List.take_append_drop k ll
 have e : lenSum ll = lenSum (ll.take k) + lenSum (ll.drop k) := by
  unfold lenSum
  rw [← List.sum_append, ← List.map_append, h]
 have := lenSum_nonneg (ll.drop k)
 omega
theorem lenSum_one (ll : List (List Int)) (k : Nat) (h : k < ll.length) : ((ll[k]?.getD []).length : Int) ≤ lenSum ll := by
 have h1 := lenSum_succ ll k h
 have h2 := lenSum_mono ll (k + 1)
 have h3 := lenSum_nonneg (ll.take k)
 omega
end Go.Proofs.YtmeaklaagglmeaaGreatDoor
