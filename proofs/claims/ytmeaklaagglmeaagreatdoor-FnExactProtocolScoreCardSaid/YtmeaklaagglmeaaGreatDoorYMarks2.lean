/- The law file's functions on slices of slices of ints and on Marks. Conditions: lengths below 2^40. -/
import Derived.Test.YtmeaklaagglmeaaGreatDoorYMarks
set_option linter.unusedVariables false
set_option linter.unusedSimpArgs false
set_option maxRecDepth 100000
namespace Go.Proofs.YtmeaklaagglmeaaGreatDoor
open Go.ChangeShapes Go.WideShapes Go.ChangeAt Go.RowKit
def szW (left T : Int) : Int := if left < T then -1 else left - T
theorem szIntS_any (w : World) (A : Option Addr) (n c : Nat) (left : Int) (hl : 0 ≤ left) (hl2 : left ≤ 1099511627776) (hn : n ≤ 9223372036854775807) :
  Calls Tryz.prog 48 #[.slice A n c, .int .i64 left] w fun e w' => e = .returned (.int .i64 (szW left n)) ∧ w = w' := by
 by_cases h : left < n
 ·
  have e1 : szW left n = -1 := by rw [szW, if_pos h]
  rw [e1]
  go_enter Tryz.func48, Tryz.ntmps48
  go_wp2
  go_ret
  exact ⟨rfl, rfl⟩
 ·
  have e1 : szW left n = left - n := by rw [szW, if_neg h]
  rw [e1]
  go_enter Tryz.func48, Tryz.ntmps48
  go_wp2
  go_ret
  exact ⟨rfl, rfl⟩
end Go.Proofs.YtmeaklaagglmeaaGreatDoor
