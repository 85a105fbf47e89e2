/- strconv.Itoa at numbers that are not negative; two digits. Conditions: the table that Itoa reads lies as its initialiser lays it. -/
import Derived.Test.YtfmidngndddfiaaGreatDoorNumT
import Derived.Test.YtfmidngndddfiaaGreatDoorDoorK
import Derived.Lib.AppendIntMem
set_option linter.unusedVariables false
set_option linter.unusedSimpArgs false
set_option maxRecDepth 100000
namespace Go.Proofs.YtfmidngndddfiaaGreatDoor
open Go.RowKit
theorem itoa_any (n : Int) (w : World) (h0 : 0 ≤ n) (h1 : n ≤ 9223372036854775807) (hT : Tab w) :
    Calls Tryz.prog 63 #[.int .i64 n] w fun e w' => e = .returned (.string (numS n)) ∧ ∃ x, w' = ext w x := by
  refine (Tryz.strconv_Itoa n (by omega) h1 w hT).mono ?_
  rintro e w' ⟨rfl, k, os, rfl⟩
  refine ⟨?_, ext_ex (Lib.below_grow w.heap.size w (Nat.le_refl _) k os)⟩
  unfold numS Lib.itoa
  rw [if_neg (by omega)]
theorem itoa_small (n : Int) (w : World) (h0 : 0 ≤ n) (h1 : n < 100) :
    Calls Tryz.prog 63 #[.int .i64 n] w fun e w' => e = .returned (.string (numS n)) ∧ w = w' := by
  obtain ⟨i, rfl⟩ : ∃ i : Nat, n = i := ⟨n.toNat, by omega⟩
  refine (Tryz.strconv_Itoa_small i (by omega) w).mono ?_
  rintro e w' ⟨rfl, rfl⟩
  exact ⟨by unfold numS; rw [Int.toNat_natCast], rfl⟩
/-- A number with two digits or more. -/
def twoD (n : Int) : ByteArray := if n < 10 then ⟨#[48]⟩ ++ numS n else numS n
theorem twoD_size {n : Int} (h0 : 0 ≤ n) (h1 : n < 100) : (twoD n).size ≤ 3 := by
  have h2 := numS_size 1 n h0 (by omega)
  unfold twoD
  split
  · rw [ByteArray.size_append]; exact (by show 1 + _ ≤ 3; omega)
  · omega
end Go.Proofs.YtfmidngndddfiaaGreatDoor
