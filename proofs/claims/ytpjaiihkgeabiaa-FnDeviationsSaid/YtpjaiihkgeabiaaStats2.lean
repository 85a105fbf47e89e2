/- Contracts of BiasOf and SlopeOf, in the program and in the reference. Conditions: lengths below 2^40. -/
import Derived.Test.YtpjaiihkgeabiaaStats
set_option linter.unusedVariables false
set_option linter.unusedSimpArgs false
set_option maxRecDepth 100000
namespace Go.Proofs.Ytpjaiihkgeabiaa
open Go.ChangeShapes Go.WideShapes Go.ChangeAt Go.RowKit
theorem mul_bdR {a b A B : Int} (h1 : -A ≤ a) (h2 : a ≤ A) (h3 : 0 ≤ b) (h4 : b ≤ B) : -(A * B) ≤ b * a ∧ b * a ≤ A * B := by rw [Int.mul_comm b a]; exact mul_bd h1 h2 h3 h4
def biasOk (l r : List Int) : Bool := serB l && serB r
def biasT (l r : List Int) : Int := sumTo l l.length * r.length - sumTo r r.length * l.length
def biasU (l r : List Int) : Int := l.length * r.length
def biasA (l r : List Int) : Int := if biasOk l r then lowA (biasT l r) (biasU l r) else 0
def biasB (l r : List Int) : Int := if biasOk l r then lowB (biasT l r) (biasU l r) else 0
theorem bias_no {l r : List Int} (h : biasOk l r = false) : biasA l r = 0 ∧ biasB l r = 0 := by simp [biasA, biasB, h]
theorem bias_yes {l r : List Int} (h : biasOk l r = true) : biasA l r = lowA (biasT l r) (biasU l r) ∧ biasB l r = lowB (biasT l r) (biasU l r) := by simp [biasA, biasB, h]
def plTo : Nat → Int
  | 0 => 0
  | k + 1 => plTo k + k
def sqTo : Nat → Int
  | 0 => 0
  | k + 1 => sqTo k + k * k
def prTo (l : List Int) : Nat → Int
  | 0 => 0
  | k + 1 => prTo l k + k * l[k]?.getD 0
set_option maxRecDepth 100000 in
theorem pl_facts : ∀ n : Nat, n < 61 → (0 ≤ plTo n ∧ plTo n ≤ 1770) ∧ (0 ≤ sqTo n ∧ sqTo n ≤ 70210) := by decide
set_option maxRecDepth 100000 in
theorem sq_pos : ∀ n : Nat, n < 61 → 2 ≤ n → 0 < (n : Int) * sqTo n - plTo n * plTo n ∧ (n : Int) * sqTo n - plTo n * plTo n ≤ 10000000 := by decide
theorem prTo_bd {l : List Int} (hb : ∀ k : Nat, -100000 ≤ l[k]?.getD 0 ∧ l[k]?.getD 0 ≤ 100000) (k : Nat) (hk : k ≤ 60) : -(6000000 * (k : Int)) ≤ prTo l k ∧ prTo l k ≤ 6000000 * k := by
  induction k with
  | zero => simp [prTo]
  | succ k ih =>
    have h1 := hb k
    have h2 := mul_bdR (a := l[k]?.getD 0) (b := k) (A := 100000) (B := 60) h1.1 h1.2 (by omega) (by omega)
    have h3 := ih (by omega)
    simp only [prTo]; push_cast; omega
def slOk (l : List Int) : Bool := serB l && !decide (l.length = 1)
def slT (l : List Int) : Int := l.length * prTo l l.length - plTo l.length * sumTo l l.length
def slU (l : List Int) : Int := l.length * sqTo l.length - plTo l.length * plTo l.length
def slA (l : List Int) : Int := if slOk l then lowA (slT l) (slU l) else 0
def slB (l : List Int) : Int := if slOk l then lowB (slT l) (slU l) else 0
theorem sl_no {l : List Int} (h : slOk l = false) : slA l = 0 ∧ slB l = 0 := by simp [slA, slB, h]
theorem sl_yes {l : List Int} (h : slOk l = true) : slA l = lowA (slT l) (slU l) ∧ slB l = lowB (slT l) (slU l) := by simp [slA, slB, h]
end Go.Proofs.Ytpjaiihkgeabiaa
