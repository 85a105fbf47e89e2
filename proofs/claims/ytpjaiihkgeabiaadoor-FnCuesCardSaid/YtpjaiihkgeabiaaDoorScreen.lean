/- Contracts of NextUp, in the program and in the reference. Conditions: slices below 2^40 elements. -/
import Derived.Test.YtpjaiihkgeabiaaDoorTimes3
set_option linter.unusedVariables false
set_option linter.unusedSimpArgs false
set_option maxRecDepth 100000
namespace Go.Proofs.YtpjaiihkgeabiaaDoor
open Go.RowKit
def upAt (S : List Int) (t : Int) (j : Nat) : Bool := decide (t < S[j]?.getD 0)
def upR (l : List (Int × Int)) (a b c gap t : Int) : Nat × Bool := if iceOk l a b c gap t then firstIdx (upAt (runS l a b c gap 0 0) t) l.length else (0, false)
def upB (l : List (Int × Int)) (a b c gap t : Int) : Bool := (upR l a b c gap t).2
def upV (l : List (Int × Int)) (a b c gap t : Int) : Int := if upB l a b c gap t then (l[(upR l a b c gap t).1]?.getD (0, 0)).1 else 0
section
variable {l : List (Int × Int)} {a b c gap t : Int}
theorem up_no (h : iceOk l a b c gap t = false) : upV l a b c gap t = 0 ∧ upB l a b c gap t = false := by simp [upV, upB, upR, h]
theorem up_hit {k n : Nat} (hl : l.length = n) (h : iceOk l a b c gap t = true) (hk : k < n) (hb : ∀ j, j < k → Hid (upAt (runS l a b c gap 0 0) t j = false)) (hh : upAt (runS l a b c gap 0 0) t k = true) : upV l a b c gap t = (l[k]?.getD (0, 0)).1 ∧ upB l a b c gap t = true := by
  have := firstIdx_hit (n := l.length) (by omega) hb hh
  simp [upV, upB, upR, h, this]
theorem up_none {n : Nat} (hl : l.length = n) (h : iceOk l a b c gap t = true) (hb : ∀ j, j < n → Hid (upAt (runS l a b c gap 0 0) t j = false)) : upV l a b c gap t = 0 ∧ upB l a b c gap t = false := by
  have := firstIdx_none (p := upAt (runS l a b c gap 0 0) t) (n := l.length) (fun j hj => hb j (by omega))
  simp [upV, upB, upR, h, this]
theorem up_more {S : List Int} {k : Nat} (hb : ∀ j, j < k → Hid (upAt S t j = false)) (h : upAt S t k = false) : ∀ j, j < k + 1 → Hid (upAt S t j = false) := fun j hj => by
  by_cases e : j = k
  · subst e; exact h
  · exact hb j (by omega)
end
end Go.Proofs.YtpjaiihkgeabiaaDoor
