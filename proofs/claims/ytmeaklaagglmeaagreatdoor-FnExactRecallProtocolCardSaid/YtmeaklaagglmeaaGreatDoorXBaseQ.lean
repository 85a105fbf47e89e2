/- Base values, plain: what names of an item are worth, its full base, its repeats, its base. Conditions: none. -/
import Derived.Test.YtmeaklaagglmeaaGreatDoorXBaseP
set_option linter.unusedVariables false
set_option linter.unusedSimpArgs false
set_option maxRecDepth 100000
namespace Go.Proofs.YtmeaklaagglmeaaGreatDoor
theorem down_eq (a b : Int) (hb : 0 < b) : a / b = (if a.tmod b < 0 then a.tdiv b - 1 else a.tdiv b) := by
 by_cases h : 0 ≤ a
 ·
  rw [Int.tmod_eq_emod_of_nonneg h, Int.tdiv_eq_ediv_of_nonneg h]
  have := Int.emod_nonneg a (show b ≠ 0 by omega)
  rw [if_neg (by omega)]
 ·
  obtain ⟨c, rfl⟩ : ∃ c, a = -c := ⟨-a, by omega⟩
  rw [Int.neg_tmod, Int.neg_tdiv, Int.tmod_eq_emod_of_nonneg (show 0 ≤ c by omega), Int.tdiv_eq_ediv_of_nonneg (show 0 ≤ c by omega)]
  have e := Int.mul_ediv_add_emod c b
  have m0 := Int.emod_nonneg c (show b ≠ 0 by omega)
  have m1 := Int.emod_lt_of_pos c hb
  generalize hq : c / b = q at *
  generalize hr : c % b = r at *
  by_cases hz : r = 0
  ·
   subst hz
   rw [if_neg (by omega)]
   rw [← e]
   rw [Int.add_zero, ← Int.mul_neg]
   exact Int.mul_ediv_cancel_left _ (by omega)
  ·
   rw [if_pos (by omega)]
   have : -c = b * (-q - 1) + (b - r) := by rw [← e, Int.mul_sub, Int.mul_neg]; omega
   rw [this, Int.add_comm, Int.add_mul_ediv_left _ _ (by omega), Int.ediv_eq_zero_of_lt (by omega) (by omega)]
   omega
def roundV (a b : Int) : Int := (2 * a + b) / (2 * b)
theorem down_bd {a b A : Int} (hb : 0 < b) (h1 : -A ≤ a) (h2 : a ≤ A) (hA : 0 ≤ A) : -A ≤ a / b ∧ a / b ≤ A := by
 constructor
 ·
  rw [Int.le_ediv_iff_mul_le hb]
  have : -A * b ≤ -A * 1 := by
   have := Int.mul_le_mul_of_nonneg_left (show (1 : Int) ≤ b by omega) hA
   rw [Int.neg_mul, Int.neg_mul]; omega
  omega
 ·
  have h3 : a / b < A + 1 := by
   rw [Int.ediv_lt_iff_lt_mul hb]
   have := Int.mul_le_mul_of_nonneg_left (show (1 : Int) ≤ b by omega) (show 0 ≤ A + 1 by omega)
   omega
  omega
def CodeG (els : List El) (q0 q1 q2 : Int) : Prop := basesOk els ∧ (1 ≤ q0 ∧ q0 ≤ 3) ∧ (0 ≤ q1 ∧ q1 ≤ 20) ∧ (0 ≤ q2 ∧ q2 ≤ 100)
def ItG (els : List El) (it : It) : Prop := (1 ≤ it.1.length ∧ it.1.length ≤ 3) ∧ it.2.1.length = it.1.length ∧ ∀ j, j < it.1.length → 0 ≤ findE els (it.1[j]?.getD ByteArray.empty)
def nmAt (it : It) (i : Nat) : ByteArray := it.1[i]?.getD ByteArray.empty
def mkAt (it : It) (i : Nat) : Int := it.2.1[i]?.getD 0
def wTo (els : List El) (keep : Int) (it : It) (k : Nat) : List Int := (List.range k).map fun i => wAt els keep (nmAt it i) (mkAt it i)
theorem wTo_succ (els : List El) (keep : Int) (it : It) (k : Nat) : wTo els keep it (k + 1) = wTo els keep it k ++ [wAt els keep (nmAt it k) (mkAt it k)] := by simp [wTo, List.range_succ]
theorem wTo_len (els : List El) (keep : Int) (it : It) (k : Nat) : (wTo els keep it k).length = k := by simp [wTo]
def wSum (els : List El) (keep : Int) (it : It) (k : Nat) : Int := (wTo els keep it k).sum
theorem wSum_succ (els : List El) (keep : Int) (it : It) (k : Nat) : wSum els keep it (k + 1) = wSum els keep it k + wAt els keep (nmAt it k) (mkAt it k) := by simp [wSum, wTo_succ]
theorem wTo_bd {els : List El} {q0 q1 q2 : Int} {it : It} (hc : CodeG els q0 q1 q2) (hi : ItG els it) (k : Nat) (hk : k ≤ it.1.length) : ∀ x ∈ wTo els q2 it k, 0 ≤ x ∧ x ≤ 2000 := by
 intro x hx
 obtain ⟨i, hi1, rfl⟩ := List.mem_map.1 hx
 simp only [List.mem_range] at hi1
 exact wAt_bd (hi.2.2 i (by omega)) hc.1 hc.2.2.2.1 hc.2.2.2.2
theorem wSum_bd {els : List El} {q0 q1 q2 : Int} {it : It} (hc : CodeG els q0 q1 q2) (hi : ItG els it) : ∀ k, k ≤ it.1.length → 0 ≤ wSum els q2 it k ∧ wSum els q2 it k ≤ 2000 * k
 | 0, _ => by simp [wSum, wTo]
 | k + 1, h => by
  have h1 := wSum_bd hc hi k (by omega)
  have h2 := wAt_bd (mark := mkAt it k) (hi.2.2 k (by omega)) hc.1 hc.2.2.2.1 hc.2.2.2.2
  rw [wSum_succ]
  unfold nmAt
  omega
theorem wSum_to (els : List El) (keep : Int) (it : It) (k : Nat) : sumTo (wTo els keep it k) k = wSum els keep it k := by
 rw [sumTo, List.take_of_length_le (by rw [wTo_len]; omega)]; rfl
def fullV (els : List El) (q1 q2 : Int) (it : It) : Int := if it.2.2 then roundV (wSum els q2 it it.1.length * (100 + q1)) 100 else wSum els q2 it it.1.length
theorem full_mul {els : List El} {q0 q1 q2 : Int} {it : It} (hc : CodeG els q0 q1 q2) (hi : ItG els it) : 0 ≤ wSum els q2 it it.1.length * (100 + q1) ∧ wSum els q2 it it.1.length * (100 + q1) ≤ 720000 := by
 have h := wSum_bd hc hi _ (Nat.le_refl _)
 have h3 := hi.1.2
 have h4 := hc.2.2.1
 refine ⟨Int.mul_nonneg h.1 (by omega), ?_⟩
 have : wSum els q2 it it.1.length * (100 + q1) ≤ 6000 * 120 := Int.mul_le_mul (by omega) (by omega) (by omega) (by omega)
 omega
theorem full_bd {els : List El} {q0 q1 q2 : Int} {it : It} (hc : CodeG els q0 q1 q2) (hi : ItG els it) : 0 ≤ fullV els q1 q2 it ∧ fullV els q1 q2 it ≤ 7201 := by
 have h := wSum_bd hc hi _ (Nat.le_refl _)
 have h3 := hi.1.2
 have h5 := full_mul hc hi
 unfold fullV roundV
 split <;> omega
def repHit (its : List It) (k j : Nat) : Bool := ((nmAt (its[j]?.getD zIt) 0).toList == (nmAt (its[k]?.getD zIt) 0).toList) && (mkAt (its[j]?.getD zIt) 0 != 3)
def repTo (its : List It) (k : Nat) : Nat → Int
 | 0 => 0
 | j + 1 => repTo its k j + (if repHit its k j then 1 else 0)
theorem repTo_yes {its : List It} {k j : Nat} (h : repHit its k j = true) : repTo its k (j + 1) = repTo its k j + 1 := by rw [repTo, if_pos h]
theorem repTo_no {its : List It} {k j : Nat} (h : repHit its k j = false) : repTo its k (j + 1) = repTo its k j := by rw [repTo, if_neg (by rw [h]; simp)]; omega
theorem repTo_bd (its : List It) (k : Nat) : ∀ j, 0 ≤ repTo its k j ∧ repTo its k j ≤ j
 | 0 => by simp [repTo]
 | j + 1 => by
  have := repTo_bd its k j
  cases h : repHit its k j
  ·
   rw [repTo_no h]; omega
  ·
   rw [repTo_yes h]; omega
def baseV (els : List El) (q0 q1 q2 : Int) (its : List It) (k : Nat) : Int :=
 if repTo its k k < q0 then fullV els q1 q2 (its[k]?.getD zIt) else if repTo its k k = q0 then fullV els q1 q2 (its[k]?.getD zIt) * 7 / 10 else 0
theorem base_bd {els : List El} {q0 q1 q2 : Int} {its : List It} {k : Nat} (hc : CodeG els q0 q1 q2) (hi : ItG els (its[k]?.getD zIt)) : 0 ≤ baseV els q0 q1 q2 its k ∧ baseV els q0 q1 q2 its k ≤ 7201 := by
 have := full_bd hc hi
 unfold baseV
 split
 ·
  exact this
 ·
  split <;> omega
end Go.Proofs.YtmeaklaagglmeaaGreatDoor
