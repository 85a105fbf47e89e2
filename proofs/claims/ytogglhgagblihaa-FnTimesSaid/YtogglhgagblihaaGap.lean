/- Contracts of GreatestGap, in the program and in the reference. Conditions: slices below 2^40 elements. -/
import Derived.Test.YtogglhgagblihaaTimes3
import Derived.Deep.LoopGhost
set_option linter.unusedVariables false
set_option linter.unusedSimpArgs false
set_option maxRecDepth 100000
namespace Go.Proofs.Ytogglhgagblihaa
open Go.RowKit
section
variable (l : List (Int × Int)) (a b c gap : Int)
theorem innT_gap (k0 : Nat) (t0 x : Int) (j : Nat) : innT l gap 0 0 k0 (t0 + x) j = innT l 0 0 0 k0 t0 j + x + j * gap := by
  induction j with
  | zero => simp [innT]
  | succ j ih =>
    rw [innT, innT, ih]
    unfold nxtT
    have e : ((j + 1 : Nat) : Int) * gap = j * gap + gap := by rw [Int.natCast_add, Int.add_mul]; simp
    rw [e]
    split <;> omega
theorem outT_gap (gs : List Int) (g : Nat) (h : g ≤ gs.length) : outT l a c gap 0 0 gs g = outT l a c 0 0 0 gs g + outK gs g * gap := by
  induction g with
  | zero => simp [outT, outK]
  | succ g ih =>
    have e1 : outT l a c 0 0 0 gs g + outK gs g * gap + c = outT l a c 0 0 0 gs g + c + outK gs g * gap := by omega
    rw [outT, outT, ih (by omega), e1, innT_gap, outK_succ gs g (by omega), Int.natCast_add, Int.add_mul]
    omega
theorem runT_gap (hb : 1 ≤ b) (hn : 1 ≤ l.length) : runT l a b c gap 0 0 = runT l a b c 0 0 0 + l.length * gap := by
  unfold runT
  rw [outT_gap l a c gap _ _ (Nat.le_refl _)]
  have := groups_all l.length b (by omega) hb
  rw [this]
end
def gapOk (l : List (Int × Int)) (a b c gap e : Int) : Bool := timedB l a b c gap && inB e 0 200000
def gapB (l : List (Int × Int)) (a b c gap e : Int) : Bool := gapOk l a b c gap e && decide (runT l a b c 0 0 0 ≤ e)
def gapV (l : List (Int × Int)) (a b c gap e : Int) : Int := if gapB l a b c gap e then min 300 ((e - runT l a b c 0 0 0) / l.length) else 0
theorem gap_no1 {l : List (Int × Int)} {a b c gap e : Int} (h : gapOk l a b c gap e = false) : gapV l a b c gap e = 0 ∧ gapB l a b c gap e = false := by simp [gapV, gapB, h]
theorem gap_no2 {l : List (Int × Int)} {a b c gap e : Int} (h : e < runT l a b c 0 0 0) : gapV l a b c gap e = 0 ∧ gapB l a b c gap e = false := by
  have : gapB l a b c gap e = false := by unfold gapB; simp; omega
  simp [gapV, this]
theorem gap_yes {l : List (Int × Int)} {a b c gap e : Int} (h : gapOk l a b c gap e = true) (h2 : runT l a b c 0 0 0 ≤ e) : gapV l a b c gap e = min 300 ((e - runT l a b c 0 0 0) / l.length) ∧ gapB l a b c gap e = true := by
  have : gapB l a b c gap e = true := by unfold gapB; simp [h, h2]
  simp [gapV, this]
theorem gap_hit {l : List (Int × Int)} {a b c gap e g : Int} (h : gapOk l a b c gap e = true) (hg0 : 0 ≤ g) (hg1 : g ≤ 300) (hb : 1 ≤ b) (hn : 1 ≤ l.length) (hh : runT l a b c g 0 0 ≤ e) (hno : ∀ g', g < g' → g' ≤ 300 → e < runT l a b c g' 0 0) : gapV l a b c gap e = g ∧ gapB l a b c gap e = true := by
  rw [runT_gap l a b c g hb hn] at hh
  have hmul : 0 ≤ (l.length : Int) * g := Int.mul_nonneg (by omega) hg0
  have hy := gap_yes h (by omega)
  refine ⟨?_, hy.2⟩
  rw [hy.1]
  have hge : g ≤ (e - runT l a b c 0 0 0) / l.length := (Int.le_ediv_iff_mul_le (by omega)).2 (by rw [Int.mul_comm]; omega)
  by_cases e300 : g = 300
  · omega
  · have := hno (g + 1) (by omega) (by omega)
    rw [runT_gap l a b c (g + 1) hb hn, Int.mul_add] at this
    have hlt : (e - runT l a b c 0 0 0) / l.length < g + 1 := (Int.ediv_lt_iff_lt_mul (by omega)).2 (by rw [Int.mul_comm, Int.mul_add]; omega)
    omega
theorem timedB_gap {l : List (Int × Int)} {a b c gap g : Int} (h : timedB l a b c gap = true) (h0 : 0 ≤ g) (h1 : g ≤ 300) : timedB l a b c g = true := by
  obtain ⟨h2, h3⟩ := timedB_of h
  simp only [dayB, Bool.and_eq_true] at h3
  have : inB g 0 300 = true := inB_iff.2 ⟨h0, h1⟩
  simp [timedB, dayB, h2, h3.1.1.1, h3.1.1.2, h3.1.2, this]
theorem ext_setbox (w x : World) (cs : Array Value) (ty j : Nat) (v : Value) : (ext (w.alloc (.cells cs ty)) x).setCell ⟨w.heap.size, j, none⟩ v = ext (w.alloc (.cells (cs.setIfInBounds j v) ty)) x := by
  unfold ext World.setCell World.alloc
  simp only [World.mk.injEq, and_true, true_and]
  apply Array.ext_getElem?
  intro i
  rw [Array.getElem?_modify]
  simp only [Array.getElem?_append, Array.getElem?_push, Array.size_push]
  by_cases h1 : i < w.heap.size
  · have n1 : ¬ w.heap.size = i := by omega
    have n2 : i < w.heap.size + 1 := by omega
    have n3 : ¬ i = w.heap.size := by omega
    simp [n1, n2, n3]
  · by_cases h2 : w.heap.size = i
    · subst h2; simp
    · rw [if_neg h2, if_neg (by omega), if_neg (by omega)]
theorem ext_ext (w x y : World) : ext (ext w x) y = ext w (ext x y) := by unfold ext; simp [Array.append_assoc]
theorem ext_setbox2 (w x y : World) (cs : Array Value) (ty j : Nat) (v : Value) : (ext (ext (w.alloc (.cells cs ty)) x) y).setCell ⟨w.heap.size, j, none⟩ v = ext (w.alloc (.cells (cs.setIfInBounds j v) ty)) (ext x y) := by
  rw [ext_ext, ext_setbox]
theorem gap_more {l : List (Int × Int)} {a b c t g : Int} (hno : ∀ g', g < g' → g' ≤ 300 → Hid (t < runT l a b c g' 0 0)) (h : t < runT l a b c g 0 0) : ∀ g', g - 1 < g' → g' ≤ 300 → Hid (t < runT l a b c g' 0 0) := fun g' h1 h2 => by
  by_cases e : g' = g
  · subst e; exact h
  · exact hno g' (by omega) h2
end Go.Proofs.Ytogglhgagblihaa
