/- strconv.Itoa at numbers that are not negative; two digits. Conditions: the table that Itoa reads lies as its initialiser lays it. -/
import Derived.Test.YtpjaiihkgeabiaaDoorNumT
import Derived.Test.YtpjaiihkgeabiaaDoorDoorK
import Derived.Lib.AppendIntMem
set_option linter.unusedVariables false
set_option linter.unusedSimpArgs false
set_option maxRecDepth 100000
namespace Go.Proofs.YtpjaiihkgeabiaaDoor
open Go.RowKit
theorem itoa_any (n : Int) (w : World) (h0 : 0 ≤ n) (h1 : n ≤ 9223372036854775807) (hT : Tab w) :
    Calls Tryd.prog 82 #[.int .i64 n] w fun e w' => e = .returned (.string (numS n)) ∧ ∃ x, w' = ext w x := by
  refine (Tryd.strconv_Itoa n (by omega) h1 w hT).mono ?_
  rintro e w' ⟨rfl, k, os, rfl⟩
  refine ⟨?_, ext_ex (Lib.below_grow w.heap.size w (Nat.le_refl _) k os)⟩
  unfold numS Lib.itoa
  rw [if_neg (by omega)]
theorem itoa_small (n : Int) (w : World) (h0 : 0 ≤ n) (h1 : n < 100) :
    Calls Tryd.prog 82 #[.int .i64 n] w fun e w' => e = .returned (.string (numS n)) ∧ w = w' := by
  obtain ⟨i, rfl⟩ : ∃ i : Nat, n = i := ⟨n.toNat, by omega⟩
  refine (Tryd.strconv_Itoa_small i (by omega) w).mono ?_
  rintro e w' ⟨rfl, rfl⟩
  exact ⟨by unfold numS; rw [Int.toNat_natCast], rfl⟩
/-- A number with two digits or more. -/
def twoD (n : Int) : ByteArray := if n < 10 then ⟨#[48]⟩ ++ numS n else numS n
theorem twoD_size {n : Int} (h0 : 0 ≤ n) (h1 : n < 100) : (twoD n).size ≤ 3 := by
  have h2 := numS_size 1 n h0 (by omega)
  unfold twoD
  split
  · rw [ByteArray.size_append]; exact (by show 1 + _ ≤ 3; omega)
  · omega
set_option maxHeartbeats 400000 in
theorem twoDigits_any (n : Int) (w : World) (h0 : 0 ≤ n) (h1 : n < 100) :
    Calls Tryd.prog 81 #[.int .i64 n] w fun e w' => e = .returned (.string (twoD n)) ∧ w = w' := by
  have h2 := numS_size 1 n h0 (by omega)
  by_cases h : n < 10
  · have HN : Hid (twoD n = ⟨#[48]⟩ ++ numS n) := Lib.hid (if_pos h)
    go_enter Tryd.func81, Tryd.ntmps81
    go_wp2_with ((go_at_call 82; ((with_reducible refine (itoa_small _ _ h0 h1).mono ?_); rintro e w' ⟨rfl, rfl⟩)))
    go_ret
    exact ⟨ret_str (by rw [HN.out]), rfl⟩
  · have HN : Hid (twoD n = numS n) := Lib.hid (if_neg h)
    go_enter Tryd.func81, Tryd.ntmps81
    go_wp2_with ((go_at_call 82; ((with_reducible refine (itoa_small _ _ h0 h1).mono ?_); rintro e w' ⟨rfl, rfl⟩)))
    go_ret
    exact ⟨ret_str (by rw [HN.out]), rfl⟩
set_option maxHeartbeats 400000 in
theorem srTwo_any (n : Int) (w : World) (h0 : 0 ≤ n) (h1 : n < 100) :
    Calls Tryd.prog 85 #[.int .i64 n] w fun e w' => e = .returned (.string (twoD n)) ∧ ∃ x, w' = ext w x := by
  have h2 := numS_size 1 n h0 (by omega)
  by_cases h : n < 10
  · have HN : Hid (twoD n = ⟨#[48]⟩ ++ numS n) := Lib.hid (if_pos h)
    go_enter Tryd.func85, Tryd.ntmps85
    go_wp2_with ((go_at_call 87; ((with_reducible refine (l1Num_fuel 1 _ _ h0 (by omega) (by omega) (by omega)).mono ?_); rintro e w' ⟨rfl, x, rfl⟩)))
    go_ret
    exact ⟨ret_str (by rw [HN.out]), x, rfl⟩
  · have HN : Hid (twoD n = numS n) := Lib.hid (if_neg h)
    go_enter Tryd.func85, Tryd.ntmps85
    go_wp2_with ((go_at_call 87; ((with_reducible refine (l1Num_fuel 1 _ _ h0 (by omega) (by omega) (by omega)).mono ?_); rintro e w' ⟨rfl, x, rfl⟩)))
    go_ret
    exact ⟨ret_str (by rw [HN.out]), x, rfl⟩
end Go.Proofs.YtpjaiihkgeabiaaDoor
