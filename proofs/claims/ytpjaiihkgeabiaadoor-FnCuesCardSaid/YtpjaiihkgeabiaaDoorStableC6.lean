/- The library's stable sort of cues: blocks of 20 by insertion, then merges. Conditions: lengths below 2^40. -/
import Derived.Test.YtpjaiihkgeabiaaDoorStableC5
set_option linter.unusedVariables false
set_option linter.unusedSimpArgs false
set_option maxRecDepth 100000
namespace Go.Proofs.YtpjaiihkgeabiaaDoor
open Go.RowKit
/-- A list of sorted blocks of k elements. -/
inductive BlC (key : T3 → Int) (k : Nat) : List T3 → Prop
  | nil : BlC key k []
  | cons (T D : List T3) : T.length = k → Srt key T → BlC key k D → BlC key k (T ++ D)
theorem BlC.snoc {key : T3 → Int} {k : Nat} {A T : List T3} (h : BlC key k A) (hl : T.length = k) (hs : Srt key T) : BlC key k (A ++ T) := by
  induction h with
  | nil => simpa using BlC.cons T [] hl hs .nil
  | cons U D h1 h2 _ ih => rw [List.append_assoc]; exact .cons U _ h1 h2 ih
theorem BlC.small {key : T3 → Int} {k : Nat} {B R : List T3} (h : BlC key k B) (hR : Srt key R) (hk : B.length + R.length ≤ k) (h0 : 0 < k) : Srt key (B ++ R) := by
  cases h with
  | nil => simpa using hR
  | cons T D h1 h2 h3 =>
    simp only [List.length_append] at hk
    have e1 : D = [] := List.eq_nil_of_length_eq_zero (by omega)
    have e2 : R = [] := List.eq_nil_of_length_eq_zero (by omega)
    subst e1 e2
    simpa using h2
theorem BlC.one {key : T3 → Int} {k : Nat} {B : List T3} (h : BlC key k B) (h1 : k ≤ B.length) (h0 : 0 < k) : ∃ T D, B = T ++ D ∧ T.length = k ∧ Srt key T ∧ BlC key k D := by
  cases h with
  | nil => simp at h1; omega
  | cons T D a b c => exact ⟨T, D, rfl, a, b, c⟩
theorem BlC.lone {key : T3 → Int} {k : Nat} {B : List T3} (h : BlC key k B) (h1 : B.length < k) : B = [] := by
  cases h with
  | nil => rfl
  | cons T D a b c => simp only [List.length_append] at h1; omega
theorem BlC.mult {key : T3 → Int} {k : Nat} {B : List T3} (h : BlC key k B) (h0 : 0 < B.length) : k ≤ B.length := by
  cases h with
  | nil => simp at h0
  | cons T D a b c => simp only [List.length_append]; omega
end Go.Proofs.YtpjaiihkgeabiaaDoor
