/- Contracts of the smallest functions of the program and of the reference (numbers, tests on lists of numbers). Conditions: none on numbers that are only compared; lengths below 2^40. -/
import Derived.Test.YtmeaklaagglmeaaGreatDoorYOwn
import Derived.Test.YtmeaklaagglmeaaGreatDoorYPlain
set_option linter.unusedVariables false
set_option linter.unusedSimpArgs false
set_option maxRecDepth 100000
namespace Go.Proofs.YtmeaklaagglmeaaGreatDoor
open Go.RowKit

def inB (a lo hi : Int) : Bool := decide (lo ≤ a) && decide (a ≤ hi)
theorem inB_iff {a lo hi : Int} : inB a lo hi = true ↔ lo ≤ a ∧ a ≤ hi := by simp [inB]
set_option maxHeartbeats 400000 in
theorem l1In_any (a lo hi : Int) (w : World) :
  Calls Tryz.prog 87 #[.int .i64 a, .int .i64 lo, .int .i64 hi] w fun e w' => e = .returned (.bool (inB a lo hi)) ∧ w = w' := by
 unfold inB
 by_cases h1 : lo ≤ a <;> by_cases h2 : a ≤ hi
 all_goals
  go_enter Tryz.func87, Tryz.ntmps87
  go_wp2
  go_ret
  simp [h1, h2]
set_option maxHeartbeats 400000 in
theorem within_any (a lo hi : Int) (w : World) :
  Calls Tryz.prog 91 #[.int .i64 a, .int .i64 lo, .int .i64 hi] w fun e w' => e = .returned (.bool (inB a lo hi)) ∧ w = w' := by
 unfold inB
 by_cases h1 : lo ≤ a <;> by_cases h2 : a ≤ hi
 all_goals
  go_enter Tryz.func91, Tryz.ntmps91
  go_wp2
  go_ret
  simp [h1, h2]
theorem l1Least_any (a b : Int) (w : World) :
  Calls Tryz.prog 174 #[.int .i64 a, .int .i64 b] w fun e w' => e = .returned (.int .i64 (min a b)) ∧ w = w' := by
 by_cases h1 : a < b
 all_goals
  go_enter Tryz.func174, Tryz.ntmps174
  go_wp2
  go_ret
  exact ⟨congrArg (fun z => Ending.returned (.int .i64 z)) (by omega), rfl⟩
set_option maxHeartbeats 400000 in
theorem eqIntS_any (w : World) (A B : Option Addr) (n m c d : Nat) (l r : List Int) (ha : RdI w A n l) (hb : RdI w B m r) (hn : n ≤ 1099511627776) :
  Calls Tryz.prog 60 #[.slice A n c, .slice B m d] w fun e w' => e = .returned (.bool (l == r)) ∧ ∃ x, w' = ext w x := by
 have Hl := Lib.hid ha.len
 have Hr := Lib.hid hb.len
 by_cases hnm : n = m
 ·
  subst hnm
  go_enter Tryz.func60, Tryz.ntmps60
  go_wp2
  go_loopw [5] (fun i wr => ∃ k x, k ≤ n ∧ i = .int .i64 (k : Nat) ∧ wr = ext w x ∧ Hid (l.take k = r.take k)) (fun i _ => n - (intOf i).toNat)
  case atStart => exact ⟨0, _, Nat.zero_le _, rfl, (ext_self w), rfl⟩
  case round =>
   obtain ⟨k, x, hk, rfl, rfl, HT⟩ := hrel
   by_cases hlt : k < n
   ·
    obtain ⟨b1, o1, rfl, hb1, hc1⟩ := ha.open_ (by omega)
    obtain ⟨b2, o2, rfl, hb2, hc2⟩ := hb.open_ (by omega)
    go_wp2
    go_quiet (fail)
    go_wp2
    ·
     go_ret
     exact ⟨ret_bool (eq_take_ne Hl.out Hr.out hlt ‹_›).symm, ext_ex (by repeat first | exact .refl _ _ | assumption | refine bExt ?_ _ | refine bAlloc ?_ _ | refine bDrewN ?_ _ | refine bDrew ?_ | refine bSet ?_ (by first | exact Nat.le_refl _ | omega | (simp <;> omega)) _)⟩
    ·
     go_roundw
     case rel => exact ⟨k + 1, _, by omega, by go_num, (ext_ex (by repeat first | exact .refl _ _ | assumption | refine bExt ?_ _ | refine bAlloc ?_ _ | refine bDrewN ?_ _ | refine bDrew ?_ | refine bSet ?_ (by first | exact Nat.le_refl _ | omega | (simp <;> omega)) _)).choose_spec, eq_take_step Hl.out Hr.out hlt HT.out ‹_›⟩
     case measure => simp [intOf]; omega
   ·
    go_wp2
    go_ret
    exact ⟨ret_bool (eq_take_end Hl.out Hr.out (by omega) HT.out).symm, _, rfl⟩
 ·
  go_enter Tryz.func60, Tryz.ntmps60
  go_wp2
  go_ret
  exact ⟨ret_bool (eq_len_ne (by rw [Hl.out, Hr.out]; exact hnm)).symm, ext_ex (by repeat first | exact .refl _ _ | assumption | refine bExt ?_ _ | refine bAlloc ?_ _ | refine bDrewN ?_ _ | refine bDrew ?_ | refine bSet ?_ (by first | exact Nat.le_refl _ | omega | (simp <;> omega)) _)⟩
end Go.Proofs.YtmeaklaagglmeaaGreatDoor
