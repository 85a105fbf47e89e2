/- Plain facts on series of ints: sums, fractions in lowest terms, drifts. Conditions: none. -/
import Derived.Test.YtfmidngndddfiaaGreatDoorPlain
import Derived.Test.YtfmidngndddfiaaGreatDoorInts
set_option linter.unusedVariables false
set_option linter.unusedSimpArgs false
set_option maxRecDepth 100000
namespace Go.Proofs.YtfmidngndddfiaaGreatDoor
def serB (l : List Int) : Bool := inB l.length 1 60 && allB l (-100000) 100000
theorem serB_of {l : List Int} (h : serB l = true) : (1 ≤ l.length ∧ l.length ≤ 60) ∧ ∀ x ∈ l, -100000 ≤ x ∧ x ≤ 100000 := by
  simp only [serB, Bool.and_eq_true] at h
  have h1 := inB_iff.1 h.1
  exact ⟨by omega, allB_of h.2⟩
def sumTo (l : List Int) (k : Nat) : Int := (l.take k).sum
theorem sumTo_succ (l : List Int) (k : Nat) (h : k < l.length) : sumTo l (k + 1) = sumTo l k + l[k]?.getD 0 := by
  unfold sumTo; rw [take_succ_getD 0 l k h]; simp
theorem sumTo_bd {l : List Int} {c : Int} (hc : 0 ≤ c) (hb : ∀ x ∈ l, -c ≤ x ∧ x ≤ c) (k : Nat) : -(c * k) ≤ sumTo l k ∧ sumTo l k ≤ c * k := by
  induction k with
  | zero => simp [sumTo]
  | succ k ih =>
    by_cases h : k < l.length
    · rw [sumTo_succ l k h]
      have := hb _ (getD_mem 0 l k h)
      have e : c * ((k + 1 : Nat) : Int) = c * k + c := by push_cast; rw [Int.mul_add, Int.mul_one]
      rw [e]; omega
    · have e1 : sumTo l (k + 1) = sumTo l k := by unfold sumTo; rw [List.take_of_length_le (by omega), List.take_of_length_le (by omega)]
      have e : c * ((k + 1 : Nat) : Int) = c * k + c := by push_cast; rw [Int.mul_add, Int.mul_one]
      rw [e1, e]; omega
theorem mul_bd {a b A B : Int} (h1 : -A ≤ a) (h2 : a ≤ A) (h3 : 0 ≤ b) (h4 : b ≤ B) : -(A * B) ≤ a * b ∧ a * b ≤ A * B := by
  have hA : 0 ≤ A := by omega
  have e1 : a * b ≤ A * b := Int.mul_le_mul_of_nonneg_right h2 h3
  have e2 : A * b ≤ A * B := Int.mul_le_mul_of_nonneg_left h4 hA
  have e3 : -A * b ≤ a * b := Int.mul_le_mul_of_nonneg_right h1 h3
  have e4 : -A * b = -(A * b) := Int.neg_mul _ _
  omega
/-- The greatest common divisor as Go's loop finds it. -/
def gcdV (a b : Int) : Int := (Nat.gcd a.natAbs b.natAbs : Nat)
theorem gcdV_step {a b : Int} (ha : 0 ≤ a) (hb : 0 < b) : gcdV b (a.tmod b) = gcdV a b := by
  unfold gcdV
  rw [Int.natAbs_tmod, Nat.gcd_comm b.natAbs, ← Nat.gcd_rec, Nat.gcd_comm]
theorem gcdV_stepE {a b : Int} (ha : 0 ≤ a) (hb : 0 < b) : gcdV b (a % b) = gcdV a b := by
  rw [← Int.tmod_eq_emod_of_nonneg ha]; exact gcdV_step ha hb
theorem gcdV_same {x y a b : Int} (h : x = a ∨ x = -a) (h' : y = b ∨ y = -b) : gcdV x y = gcdV a b := by
  unfold gcdV; congr 2 <;> omega
theorem gcdV_zero {a : Int} (ha : 0 ≤ a) : gcdV a 0 = a := by unfold gcdV; simp; omega
theorem gcdV_abs (a b : Int) : gcdV (max a (-a)) b = gcdV a b := by unfold gcdV; congr 2; omega
theorem gcdV_abs2 (a b : Int) : gcdV a (max b (-b)) = gcdV a b := by unfold gcdV; congr 2; omega
theorem gcdV_pos {a b : Int} (hb : 0 < b) : 0 < gcdV a b := by
  unfold gcdV
  have := Nat.gcd_pos_of_pos_right a.natAbs (show 0 < b.natAbs by omega)
  omega
theorem gcdV_le {a b : Int} (hb : 0 < b) : gcdV a b ≤ b := by
  unfold gcdV
  have := Nat.gcd_le_right a.natAbs (show 0 < b.natAbs by omega)
  omega
theorem tdiv_bd (a d : Int) (hd : 0 < d) : (0 ≤ a → 0 ≤ a.tdiv d ∧ a.tdiv d ≤ a) ∧ (a ≤ 0 → a ≤ a.tdiv d ∧ a.tdiv d ≤ 0) := by
  have pos : ∀ x : Int, 0 ≤ x → 0 ≤ x.tdiv d ∧ x.tdiv d ≤ x := fun x hx => by
    rw [Int.tdiv_eq_ediv_of_nonneg hx]
    exact ⟨Int.ediv_nonneg hx (by omega), Int.ediv_le_self _ hx⟩
  refine ⟨pos a, fun h => ?_⟩
  have := pos (-a) (by omega)
  rw [Int.neg_tdiv] at this
  omega
/-- The top of a / b in lowest terms, and what lies below the line. -/
def lowA (a b : Int) : Int := a.tdiv (gcdV a b)
def lowB (a b : Int) : Int := b.tdiv (gcdV a b)
/-- Sum of the d last entries that end at i, going down. -/
def dnSum (l : List Int) (i : Nat) : Nat → Int
  | 0 => 0
  | d + 1 => dnSum l i d + l[i - d]?.getD 0
def dnMost (l : List Int) (i : Nat) : Nat → Int
  | 0 => 0
  | d + 1 => max (dnMost l i d) (max (dnSum l i (d + 1)) (-dnSum l i (d + 1)))
def driftV (l : List Int) (i : Nat) : Int := dnMost l i (i + 1)
def dnHi (l : List Int) (i : Nat) : Nat → Int
  | 0 => 0
  | d + 1 => max (dnHi l i d) (dnSum l i (d + 1))
def dnLo (l : List Int) (i : Nat) : Nat → Int
  | 0 => 0
  | d + 1 => min (dnLo l i d) (dnSum l i (d + 1))
theorem dnMost_eq (l : List Int) (i d : Nat) : dnMost l i d = max (dnHi l i d) (-dnLo l i d) := by
  induction d with
  | zero => simp [dnMost, dnHi, dnLo]
  | succ d ih => simp only [dnMost, dnHi, dnLo, ih]; omega
theorem dnSum_up (l : List Int) (i d : Nat) (h : d ≤ i + 1) : dnSum l (i + 1) (d + 1) = l[i + 1]?.getD 0 + dnSum l i d := by
  induction d with
  | zero => simp [dnSum]
  | succ d ih => rw [dnSum, ih (by omega), dnSum, show i + 1 - (d + 1) = i - d by omega]; omega
theorem dnHi_up (l : List Int) (i d : Nat) (h : d ≤ i + 1) : dnHi l (i + 1) (d + 1) = max 0 (l[i + 1]?.getD 0 + dnHi l i d) := by
  induction d with
  | zero => simp [dnHi, dnSum]
  | succ d ih => rw [dnHi, ih (by omega), dnSum_up l i (d + 1) h, dnHi]; omega
theorem dnLo_up (l : List Int) (i d : Nat) (h : d ≤ i + 1) : dnLo l (i + 1) (d + 1) = min 0 (l[i + 1]?.getD 0 + dnLo l i d) := by
  induction d with
  | zero => simp [dnLo, dnSum]
  | succ d ih => rw [dnLo, ih (by omega), dnSum_up l i (d + 1) h, dnLo]; omega
/-- The reference's greatest and least sums that end at i. -/
def hiAt (l : List Int) : Nat → Int
  | 0 => l[0]?.getD 0
  | i + 1 => l[i + 1]?.getD 0 + max (hiAt l i) 0
def loAt (l : List Int) : Nat → Int
  | 0 => l[0]?.getD 0
  | i + 1 => l[i + 1]?.getD 0 + min (loAt l i) 0
theorem hiAt_eq (l : List Int) (i : Nat) : max (hiAt l i) 0 = dnHi l i (i + 1) := by
  induction i with
  | zero => simp [hiAt, dnHi, dnSum]; omega
  | succ i ih => rw [dnHi_up l i (i + 1) (by omega), ← ih, hiAt]; omega
theorem loAt_eq (l : List Int) (i : Nat) : min (loAt l i) 0 = dnLo l i (i + 1) := by
  induction i with
  | zero => simp [loAt, dnLo, dnSum]; omega
  | succ i ih => rw [dnLo_up l i (i + 1) (by omega), ← ih, loAt]; omega
theorem hi_lo (l : List Int) (i : Nat) : loAt l i ≤ l[i]?.getD 0 ∧ l[i]?.getD 0 ≤ hiAt l i := by
  cases i with
  | zero => simp [hiAt, loAt]
  | succ i => simp only [hiAt, loAt]; omega
theorem drift_eq (l : List Int) (i : Nat) : max (hiAt l i) (-loAt l i) = driftV l i := by
  rw [driftV, dnMost_eq, ← hiAt_eq, ← loAt_eq]
  have := hi_lo l i
  omega
theorem hiAt_bd {l : List Int} (hb : ∀ k : Nat, -100000 ≤ l[k]?.getD 0 ∧ l[k]?.getD 0 ≤ 100000) (i : Nat) : (-100000 ≤ hiAt l i ∧ hiAt l i ≤ 100000 * (i + 1)) ∧ (-(100000 * (i + 1)) ≤ loAt l i ∧ loAt l i ≤ 100000) := by
  induction i with
  | zero => have := hb 0; simp only [hiAt, loAt]; omega
  | succ i ih => have := hb (i + 1); simp only [hiAt, loAt]; push_cast; omega
theorem dn_bd {l : List Int} (hb : ∀ k : Nat, -100000 ≤ l[k]?.getD 0 ∧ l[k]?.getD 0 ≤ 100000) (i d : Nat) : (-(100000 * (d : Int)) ≤ dnSum l i d ∧ dnSum l i d ≤ 100000 * d) ∧ 0 ≤ dnMost l i d ∧ dnMost l i d ≤ 100000 * d := by
  induction d with
  | zero => simp [dnSum, dnMost]
  | succ d ih => have := hb (i - d); simp only [dnSum, dnMost]; push_cast; omega
theorem getD_bd {l : List Int} (hb : ∀ x ∈ l, -100000 ≤ x ∧ x ≤ 100000) (k : Nat) : -100000 ≤ l[k]?.getD 0 ∧ l[k]?.getD 0 ≤ 100000 := by
  by_cases h : k < l.length
  · exact hb _ (getD_mem 0 l k h)
  · simp [List.getElem?_eq_none (Nat.le_of_not_lt h)]
def mostTo (l : List Int) : Nat → Int
  | 0 => 0
  | k + 1 => max (mostTo l k) (driftV l k)
end Go.Proofs.YtfmidngndddfiaaGreatDoor
