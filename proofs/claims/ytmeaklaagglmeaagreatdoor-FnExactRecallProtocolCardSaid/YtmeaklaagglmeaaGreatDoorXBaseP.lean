/- Base values: what an element is worth with a mark, an item's base; plain. Conditions: none. -/
import Derived.Test.YtmeaklaagglmeaaGreatDoorXCode2
import Derived.Test.YtmeaklaagglmeaaGreatDoorXItemQ
import Derived.Test.YtmeaklaagglmeaaGreatDoorXStatsP
set_option linter.unusedVariables false
set_option linter.unusedSimpArgs false
set_option maxRecDepth 100000
namespace Go.Proofs.YtmeaklaagglmeaaGreatDoor
def basesOk (els : List El) : Prop := ∀ k, k < els.length → 1 ≤ (els[k]?.getD zEl).2.2.2 ∧ (els[k]?.getD zEl).2.2.2 ≤ 2000
def worthV (keep base mark : Int) : Int := if mark = 1 then base * keep / 100 else if mark = 2 then base * 9 / 10 else if mark = 3 then 0 else base
def wAt (els : List El) (keep : Int) (s : ByteArray) (mark : Int) : Int := worthV keep (els[(findE els s).toNat]?.getD zEl).2.2.2 mark
theorem worthV_bd {keep base mark : Int} (h1 : 1 ≤ base) (h2 : base ≤ 2000) (h3 : 0 ≤ keep) (h4 : keep ≤ 100) : 0 ≤ worthV keep base mark ∧ worthV keep base mark ≤ 2000 := by
 have p0 : 0 ≤ base * keep := Int.mul_nonneg (by omega) h3
 have p1 : base * keep ≤ 2000 * 100 := Int.mul_le_mul h2 h4 h3 (by omega)
 unfold worthV
 split
 ·
  omega
 ·
  split
  ·
   omega
  ·
   split <;> omega
theorem findE_nat {els : List El} {s : ByteArray} (h : 0 ≤ findE els s) : ∃ k : Nat, findE els s = k ∧ k < els.length := by
 unfold findE at h ⊢
 unfold eI firstIdx at h ⊢
 cases hf : (List.range els.length).find? (eP els s) with
 | none => rw [hf] at h; simp at h
 | some k =>
  refine ⟨k, by simp, ?_⟩
  have := List.mem_of_find?_eq_some hf
  simpa using this
theorem wAt_bd {els : List El} {keep : Int} {s : ByteArray} {mark : Int} (hf : 0 ≤ findE els s) (hB : basesOk els) (h3 : 0 ≤ keep) (h4 : keep ≤ 100) : 0 ≤ wAt els keep s mark ∧ wAt els keep s mark ≤ 2000 := by
 obtain ⟨k, hk, hkn⟩ := findE_nat hf
 unfold wAt
 rw [hk]
 exact worthV_bd (hB k hkn).1 (hB k hkn).2 h3 h4
def knowIt (els : List El) (it : It) : Bool := it.1.all fun s => decide (0 ≤ findE els s)
def knowB (els : List El) (its : List It) : Bool := its.all (knowIt els)
theorem all_no {α : Type} {P : α → Bool} {d : α} {l : List α} {k : Nat} (hk : k < l.length) (h : P (l[k]?.getD d) = false) : l.all P = false := by
 rw [Bool.eq_false_iff]; intro hh
 have := List.all_eq_true.1 hh _ (getD_mem d l k hk)
 rw [h] at this; cases this
theorem all_more {α : Type} {P : α → Bool} {d : α} {l : List α} {k : Nat} (hk : k < l.length) (h1 : (l.take k).all P = true) (h : P (l[k]?.getD d) = true) : (l.take (k + 1)).all P = true := by
 rw [take_succ_getD d l k hk, List.all_append, h1]
 simp [h]
theorem all_done {α : Type} {P : α → Bool} {l : List α} {k : Nat} (hk : l.length ≤ k) (h1 : (l.take k).all P = true) : l.all P = true := by
 rwa [List.take_of_length_le hk] at h1
end Go.Proofs.YtmeaklaagglmeaaGreatDoor
