/- Contracts of OnIce and GreatestGap, in the program and in the reference. Conditions: slices below 2^40 elements. -/
import Derived.Test.YtpjaiihkgeabiaaDoorTimes2
set_option linter.unusedVariables false
set_option linter.unusedSimpArgs false
set_option maxRecDepth 100000
namespace Go.Proofs.YtpjaiihkgeabiaaDoor
open Go.RowKit
def iceAt (l : List (Int × Int)) (S : List Int) (t : Int) (j : Nat) : Bool := decide (S[j]?.getD 0 ≤ t) && decide (t < S[j]?.getD 0 + (l[j]?.getD (0, 0)).2)
def iceOk (l : List (Int × Int)) (a b c gap t : Int) : Bool := timedB l a b c gap && inB t 0 200000
def iceR (l : List (Int × Int)) (a b c gap t : Int) : Nat × Bool := if iceOk l a b c gap t then firstIdx (iceAt l (runS l a b c gap 0 0) t) l.length else (0, false)
def iceV (l : List (Int × Int)) (a b c gap t : Int) : Int := (iceR l a b c gap t).1
def iceB (l : List (Int × Int)) (a b c gap t : Int) : Bool := (iceR l a b c gap t).2
theorem ice_no {l : List (Int × Int)} {a b c gap t : Int} (h : iceOk l a b c gap t = false) : iceV l a b c gap t = 0 ∧ iceB l a b c gap t = false := by
  simp [iceV, iceB, iceR, h]
theorem ice_hit {l : List (Int × Int)} {a b c gap t : Int} {k n : Nat} (hl : l.length = n) (h : iceOk l a b c gap t = true) (hk : k < n) (hb : ∀ j, j < k → Hid (iceAt l (runS l a b c gap 0 0) t j = false)) (hh : iceAt l (runS l a b c gap 0 0) t k = true) : iceV l a b c gap t = k ∧ iceB l a b c gap t = true := by
  have := firstIdx_hit (n := l.length) (by omega) hb hh
  simp [iceV, iceB, iceR, h, this]
theorem ice_none {l : List (Int × Int)} {a b c gap t : Int} {n : Nat} (hl : l.length = n) (h : iceOk l a b c gap t = true) (hb : ∀ j, j < n → Hid (iceAt l (runS l a b c gap 0 0) t j = false)) : iceV l a b c gap t = 0 ∧ iceB l a b c gap t = false := by
  have := firstIdx_none (p := iceAt l (runS l a b c gap 0 0) t) (n := l.length) (fun j hj => hb j (by omega))
  simp [iceV, iceB, iceR, h, this]
theorem ice_more {l : List (Int × Int)} {S : List Int} {t : Int} {k : Nat} (hb : ∀ j, j < k → Hid (iceAt l S t j = false)) (h : iceAt l S t k = false) : ∀ j, j < k + 1 → Hid (iceAt l S t j = false) := fun j hj => by
  by_cases e : j = k
  · subst e; exact h
  · exact hb j (by omega)
theorem ice_at {l : List (Int × Int)} {S : List Int} {t s m : Int} {k : Nat} (hs : S[k]?.getD 0 = s) (hm : (l[k]?.getD (0, 0)).2 = m) : iceAt l S t k = (decide (s ≤ t) && decide (t < s + m)) := by rw [iceAt, hs, hm]
theorem getD_mem_bd {S : List Int} {k : Nat} (h : k < S.length) (hb : ∀ x ∈ S, 0 ≤ x ∧ x ≤ 1000000) : 0 ≤ S[k]?.getD 0 ∧ S[k]?.getD 0 ≤ 1000000 := hb _ (getD_mem 0 S k h)
end Go.Proofs.YtpjaiihkgeabiaaDoor
