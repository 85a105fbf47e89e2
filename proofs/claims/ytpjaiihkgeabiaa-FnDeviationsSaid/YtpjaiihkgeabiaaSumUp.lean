/- Plain: sums over the first numbers, and what judges' functions count. Conditions: none. -/
import Derived.Test.YtpjaiihkgeabiaaMarksP
import Derived.Test.YtpjaiihkgeabiaaStatsP
set_option linter.unusedVariables false
set_option linter.unusedSimpArgs false
set_option maxRecDepth 100000
namespace Go.Proofs.Ytpjaiihkgeabiaa
open Go.RowKit
def sumUp (f : Nat → Int) : Nat → Int
  | 0 => 0
  | k + 1 => sumUp f k + f k
theorem sumUp_succ (f : Nat → Int) (k : Nat) : sumUp f (k + 1) = sumUp f k + f k := rfl
theorem sumUp_bd {f : Nat → Int} {B : Int} (hB : 0 ≤ B) (n : Nat) (h : ∀ k, k < n → -B ≤ f k ∧ f k ≤ B) : -(n * B) ≤ sumUp f n ∧ sumUp f n ≤ n * B := by
  induction n with
  | zero => simp [sumUp]
  | succ n ih =>
    have h1 := ih (fun k hk => h k (by omega))
    have h2 := h n (by omega)
    rw [sumUp_succ]
    have e : ((n + 1 : Nat) : Int) * B = n * B + B := by rw [Int.natCast_add, Int.add_mul]; simp
    rw [e]; omega
theorem sumUp_bd14 {f : Nat → Int} {B : Int} (hB : 0 ≤ B) (n : Nat) (hn : n ≤ 14) (h : ∀ k, k < n → -B ≤ f k ∧ f k ≤ B) : -(14 * B) ≤ sumUp f n ∧ sumUp f n ≤ 14 * B := by
  have h1 := sumUp_bd hB n h
  have h2 : (n : Int) * B ≤ 14 * B := Int.mul_le_mul_of_nonneg_right (by omega) hB
  omega
def boolN (b : Bool) : Int := if b then 1 else 0
theorem boolN_bd (b : Bool) : -1 ≤ boolN b ∧ boolN b ≤ 1 := by cases b <;> simp [boolN]
theorem boolN_nn (b : Bool) : 0 ≤ boolN b := by cases b <;> simp [boolN]
/-- The mark of judge a (an index) in row l. -/
def atI (l : List Int) (a : Int) : Int := l[a.toNat]?.getD 0
def rowOf (gg : List (List Int)) (k : Nat) : List Int := gg[k]?.getD []
/-- One judge's deviation in a row. -/
def devI (l : List Int) (a : Int) : Int := l.length * atI l a - sumTo l l.length
theorem atI_bd {l : List Int} {a : Int} (hb : ∀ x ∈ l, -5 ≤ x ∧ x ≤ 5) (ha : 0 ≤ a) (hl : a < l.length) : -5 ≤ atI l a ∧ atI l a ≤ 5 := hb _ (getD_mem 0 l a.toNat (by omega))
theorem sumTo_bd5 {l : List Int} (hb : ∀ x ∈ l, -5 ≤ x ∧ x ≤ 5) (k : Nat) (hk : k ≤ l.length) (hl : l.length ≤ 9) : -45 ≤ sumTo l k ∧ sumTo l k ≤ 45 := by
  have h : ∀ k : Nat, k ≤ l.length → -(5 * (k : Int)) ≤ sumTo l k ∧ sumTo l k ≤ 5 * k := by
    intro k
    induction k with
    | zero => intro _; simp [sumTo]
    | succ k ih =>
      intro hk
      have h1 := ih (by omega)
      have h2 := hb _ (getD_mem 0 l k (by omega))
      rw [sumTo_succ l k (by omega)]
      omega
  have := h k hk
  omega
theorem devI_bd {l : List Int} {a : Int} (hb : ∀ x ∈ l, -5 ≤ x ∧ x ≤ 5) (ha : 0 ≤ a) (hl : a < l.length) (h9 : l.length ≤ 9) : -90 ≤ devI l a ∧ devI l a ≤ 90 := by
  have h1 := atI_bd hb ha hl
  have h2 := sumTo_bd5 hb l.length (Nat.le_refl _) h9
  unfold devI
  have h3 : (l.length : Int) * atI l a ≤ 45 := by
    have : (l.length : Int) * atI l a ≤ l.length * 5 := Int.mul_le_mul_of_nonneg_left h1.2 (by omega)
    omega
  have h4 : -45 ≤ (l.length : Int) * atI l a := by
    have : (l.length : Int) * (-5) ≤ l.length * atI l a := Int.mul_le_mul_of_nonneg_left h1.1 (by omega)
    omega
  omega
def absM (a : Int) : Int := max a (-a)
/-- AgreementOf. -/
def agreeU (gg : List (List Int)) (a b : Int) (k : Nat) : Int := sumUp (fun k => boolN (atI (rowOf gg k) a == atI (rowOf gg k) b)) k
/-- DeviationOf. -/
def devU (gg : List (List Int)) (a : Int) (k : Nat) : Int := sumUp (fun k => devI (rowOf gg k) a) k
def absU (gg : List (List Int)) (a : Int) (k : Nat) : Int := sumUp (fun k => absM (devI (rowOf gg k) a)) k
/-- OrderAgreement. -/
def sgnI (x : Int) : Int := if 0 < x then 1 else if x < 0 then -1 else 0
theorem sgnI_cases (x : Int) : sgnI x = 1 ∨ sgnI x = -1 ∨ sgnI x = 0 := by
  unfold sgnI
  by_cases h : 0 < x
  · simp [h]
  · by_cases h' : x < 0
    · simp [h, h']
    · simp [h, h']
def ordI (gg : List (List Int)) (a b : Int) (i j : Nat) : Int := sgnI (atI (rowOf gg i) a - atI (rowOf gg j) a) * sgnI (atI (rowOf gg i) b - atI (rowOf gg j) b)
theorem ordI_cases (gg : List (List Int)) (a b : Int) (i j : Nat) : ordI gg a b i j = 1 ∨ ordI gg a b i j = -1 ∨ ordI gg a b i j = 0 := by
  unfold ordI
  rcases sgnI_cases (atI (rowOf gg i) a - atI (rowOf gg j) a) with h | h | h <;> rcases sgnI_cases (atI (rowOf gg i) b - atI (rowOf gg j) b) with g | g | g <;> rw [h, g] <;> decide
def ordT (gg : List (List Int)) (a b s : Int) (i j : Nat) : Int := sumUp (fun j => boolN (ordI gg a b i j == s)) j
def ordU (gg : List (List Int)) (a b s : Int) (k : Nat) : Int := sumUp (fun i => ordT gg a b s i i) k
theorem ordT_bd (gg : List (List Int)) (a b s : Int) (i j : Nat) (hj : j ≤ 14) : -14 ≤ ordT gg a b s i j ∧ ordT gg a b s i j ≤ 14 := sumUp_bd14 (B := 1) (by omega) j hj (fun _ _ => boolN_bd _)
theorem ordU_bd (gg : List (List Int)) (a b s : Int) (k : Nat) (hk : k ≤ 14) : -196 ≤ ordU gg a b s k ∧ ordU gg a b s k ≤ 196 := by
  have := sumUp_bd14 (f := fun i => ordT gg a b s i i) (B := 14) (by omega) k hk (fun i hi => ordT_bd gg a b s i i (by omega))
  unfold ordU; omega
theorem agreeU_bd (gg : List (List Int)) (a b : Int) (k : Nat) (hk : k ≤ 14) : -14 ≤ agreeU gg a b k ∧ agreeU gg a b k ≤ 14 := sumUp_bd14 (B := 1) (by omega) k hk (fun _ _ => boolN_bd _)
end Go.Proofs.Ytpjaiihkgeabiaa
