/- Contracts of the functions on series of ints, in the program and in the reference. Conditions: lengths below 2^40. -/
import Derived.Test.YtmeaklaagglmeaaGreatDoorXStatsP
import Derived.Test.YtmeaklaagglmeaaGreatDoorXLawKit
import Derived.Deep.RegionHeld3
set_option linter.unusedVariables false
set_option linter.unusedSimpArgs false
set_option maxRecDepth 100000
namespace Go.Proofs.YtmeaklaagglmeaaGreatDoor
open Go.ChangeShapes Go.WideShapes Go.ChangeAt Go.RowKit
theorem ret_int2 {a b c d : Int} (h : a = b) (h' : c = d) : Ending.returned (.tuple #[.int .i64 a, .int .i64 c]) = .returned (.tuple #[.int .i64 b, .int .i64 d]) := by rw [h, h']
set_option maxHeartbeats 400000 in
theorem sumInts_any (w : World) (A : Option Addr) (n c : Nat) (l : List Int) (ha : RdI w A n l) (hn : n ≤ 1000) (hb : ∀ x ∈ l, -100000 ≤ x ∧ x ≤ 100000) :
  Calls Tryz.prog 182 #[.slice A n c] w fun e w' => e = .returned (.int .i64 (sumTo l n)) ∧ w = w' := by
 have Hl := Lib.hid ha.len
 go_enter Tryz.func182, Tryz.ntmps182
 go_wp2
 go_loop [3, 5, 8] (fun t _ i => ∃ k : Nat, k ≤ n ∧ i = .int .i64 k ∧ t = .int .i64 (sumTo l k)) (fun _ _ i => n - (intOf i).toNat)
 case atStart => exact ⟨0, by omega, rfl, rfl⟩
 case round =>
  obtain ⟨k, hk, rfl, rfl⟩ := hrel
  by_cases hlt : k < n
  ·
   obtain ⟨b, off, rfl, hb0, hc⟩ := ha.open_ (by omega)
   have hck := hc k hlt
   rw [List.getD_eq_getElem?_getD] at hck
   have h1 := sumTo_bd (by omega) hb k
   have h2 := hb _ (getD_mem 0 l k (by rw [Hl.out]; exact hlt))
   have HS := Lib.hid (sumTo_succ l k (by rw [Hl.out]; exact hlt))
   clear hc
   generalize l[k]?.getD 0 = x at *
   generalize sumTo l k = s at *
   go_wp2
   go_round
   case rel => exact ⟨k + 1, by omega, by go_num, by rw [HS.out]⟩
   case measure => simp [intOf]; omega
  ·
   have hkn := Lib.hid (show k = n by omega)
   go_wp2
   go_ret
   exact ⟨ret_int (by rw [hkn.out]), rfl⟩
end Go.Proofs.YtmeaklaagglmeaaGreatDoor
