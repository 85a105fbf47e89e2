/- Plain: when marks are valid. Conditions: none. -/
import Derived.Test.YtmeaklaagglmeaaGreatDoorXInts
set_option linter.unusedVariables false
set_option linter.unusedSimpArgs false
set_option maxRecDepth 100000
namespace Go.Proofs.YtmeaklaagglmeaaGreatDoor
open Go.RowKit
def compB (x : Int) : Bool := inB x 0 1000 && (x.tmod 25 == 0)
def gRowB (j : Nat) (l : List Int) : Bool := decide (l.length = j) && allB l (-5) 5
def cRowB (j : Nat) (l : List Int) : Bool := decide (l.length = j) && l.all compB
def judgesN (kk : List (List Int)) : Nat := (kk[0]?.getD []).length
def gAllB (gg kk : List (List Int)) : Bool := gg.all (gRowB (judgesN kk))
def cAllB (kk : List (List Int)) : Bool := kk.all (cRowB (judgesN kk))
def marksB (gg kk : List (List Int)) : Bool := decide (kk.length = 3) && decide (gg.length ≤ 14) && (gAllB gg kk && cAllB kk && inB (judgesN kk) 3 9)
section
variable {gg kk : List (List Int)}
theorem marksB_no3 (h : kk.length ≠ 3) : marksB gg kk = false := by simp [marksB, h]
theorem marksB_no14 (h : 14 < gg.length) : marksB gg kk = false := by simp [marksB]; omega
theorem marksB_noJ (h : inB (judgesN kk) 3 9 = false) : marksB gg kk = false := by simp [marksB, h]
theorem marksB_noG {k : Nat} (hk : k < gg.length) (h : gRowB (judgesN kk) (gg[k]?.getD []) = false) : marksB gg kk = false := by
 have : gAllB gg kk = false := all_miss [] hk h
 simp [marksB, this]
theorem marksB_noC {k : Nat} (hk : k < kk.length) (h : cRowB (judgesN kk) (kk[k]?.getD []) = false) : marksB gg kk = false := by
 have : cAllB kk = false := all_miss [] hk h
 simp [marksB, this]
theorem marksB_yes (h3 : kk.length = 3) (h14 : gg.length ≤ 14) (hg : gAllB gg kk = true) (hc : cAllB kk = true) : marksB gg kk = inB (judgesN kk) 3 9 := by
 simp [marksB, h3, h14, hg, hc]
theorem marksB_of (h : marksB gg kk = true) : kk.length = 3 ∧ gg.length ≤ 14 ∧ (3 ≤ judgesN kk ∧ judgesN kk ≤ 9) ∧ ∀ k, k < gg.length → (gg[k]?.getD []).length = judgesN kk ∧ ∀ x ∈ gg[k]?.getD [], -5 ≤ x ∧ x ≤ 5 := by
 simp only [marksB, Bool.and_eq_true, decide_eq_true_eq] at h
 obtain ⟨⟨h3, h14⟩, ⟨hg, _⟩, hj⟩ := h
 have hj := inB_iff.1 hj
 refine ⟨h3, h14, by omega, fun k hk => ?_⟩
 have := List.all_eq_true.1 hg _ (getD_mem [] gg k hk)
 simp only [gRowB, Bool.and_eq_true, decide_eq_true_eq] at this
 exact ⟨this.1, allB_of this.2⟩
theorem gRow_of {j : Nat} {l : List Int} (h : l.length ≠ j) : gRowB j l = false := by simp [gRowB, h]
end
def mod25 (l : List Int) : Bool := l.all fun x => x.tmod 25 == 0
theorem cRow_eq (j : Nat) (l : List Int) : cRowB j l = (mod25 l && (decide (l.length = j) && allB l 0 1000)) := by
 unfold cRowB mod25 allB compB
 have : (l.all fun x => inB x 0 1000 && (x.tmod 25 == 0)) = (l.all (fun x => inB x 0 1000) && l.all fun x => x.tmod 25 == 0) := by
  induction l with
  | nil => rfl
  | cons a r ih => simp only [List.all_cons, ih]; cases inB a 0 1000 <;> cases (a.tmod 25 == 0) <;> simp [Bool.and_comm]
 rw [this]
 cases decide (l.length = j) <;> cases l.all (fun x => inB x 0 1000) <;> cases (l.all fun x => x.tmod 25 == 0) <;> rfl
end Go.Proofs.YtmeaklaagglmeaaGreatDoor
