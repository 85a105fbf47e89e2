/- Contracts of GreatestGap, in the program and in the reference. Conditions: slices below 2^40 elements. -/
import Derived.Test.YtpjaiihkgeabiaaDoorTimes3
import Derived.Deep.LoopGhost
import Derived.Test.YtpjaiihkgeabiaaDoorPlain
import Derived.Test.YtpjaiihkgeabiaaDoorInts
import Derived.Test.YtpjaiihkgeabiaaDoorL1
import Derived.Test.YtpjaiihkgeabiaaDoorLawKit
import Derived.Deep.RegionHeld3
import Derived.Test.YtpjaiihkgeabiaaDoorLift
import Derived.Test.YtpjaiihkgeabiaaDoorZDraws
set_option linter.unusedVariables false
set_option linter.unusedSimpArgs false
set_option maxRecDepth 100000
namespace Go.Proofs.YtpjaiihkgeabiaaDoor
open Go.RowKit
section
variable (l : List (Int × Int)) (a b c gap : Int)
theorem innT_gap (k0 : Nat) (t0 x : Int) (j : Nat) : innT l gap 0 0 k0 (t0 + x) j = innT l 0 0 0 k0 t0 j + x + j * gap := by
  induction j with
  | zero => simp [innT]
  | succ j ih =>
    rw [innT, innT, ih]
    unfold nxtT
    have e : ((j + 1 : Nat) : Int) * gap = j * gap + gap := by rw [Int.natCast_add, Int.add_mul]; simp
    rw [e]
    split <;> omega
theorem outT_gap (gs : List Int) (g : Nat) (h : g ≤ gs.length) : outT l a c gap 0 0 gs g = outT l a c 0 0 0 gs g + outK gs g * gap := by
  induction g with
  | zero => simp [outT, outK]
  | succ g ih =>
    have e1 : outT l a c 0 0 0 gs g + outK gs g * gap + c = outT l a c 0 0 0 gs g + c + outK gs g * gap := by omega
    rw [outT, outT, ih (by omega), e1, innT_gap, outK_succ gs g (by omega), Int.natCast_add, Int.add_mul]
    omega
theorem runT_gap (hb : 1 ≤ b) (hn : 1 ≤ l.length) : runT l a b c gap 0 0 = runT l a b c 0 0 0 + l.length * gap := by
  unfold runT
  rw [outT_gap l a c gap _ _ (Nat.le_refl _)]
  have := groups_all l.length b (by omega) hb
  rw [this]
end
def gapOk (l : List (Int × Int)) (a b c gap e : Int) : Bool := timedB l a b c gap && inB e 0 200000
def gapB (l : List (Int × Int)) (a b c gap e : Int) : Bool := gapOk l a b c gap e && decide (runT l a b c 0 0 0 ≤ e)
def gapV (l : List (Int × Int)) (a b c gap e : Int) : Int := if gapB l a b c gap e then min 300 ((e - runT l a b c 0 0 0) / l.length) else 0
theorem gap_no1 {l : List (Int × Int)} {a b c gap e : Int} (h : gapOk l a b c gap e = false) : gapV l a b c gap e = 0 ∧ gapB l a b c gap e = false := by simp [gapV, gapB, h]
theorem gap_no2 {l : List (Int × Int)} {a b c gap e : Int} (h : e < runT l a b c 0 0 0) : gapV l a b c gap e = 0 ∧ gapB l a b c gap e = false := by
  have : gapB l a b c gap e = false := by unfold gapB; simp; omega
  simp [gapV, this]
theorem gap_yes {l : List (Int × Int)} {a b c gap e : Int} (h : gapOk l a b c gap e = true) (h2 : runT l a b c 0 0 0 ≤ e) : gapV l a b c gap e = min 300 ((e - runT l a b c 0 0 0) / l.length) ∧ gapB l a b c gap e = true := by
  have : gapB l a b c gap e = true := by unfold gapB; simp [h, h2]
  simp [gapV, this]
theorem gap_hit {l : List (Int × Int)} {a b c gap e g : Int} (h : gapOk l a b c gap e = true) (hg0 : 0 ≤ g) (hg1 : g ≤ 300) (hb : 1 ≤ b) (hn : 1 ≤ l.length) (hh : runT l a b c g 0 0 ≤ e) (hno : ∀ g', g < g' → g' ≤ 300 → e < runT l a b c g' 0 0) : gapV l a b c gap e = g ∧ gapB l a b c gap e = true := by
  rw [runT_gap l a b c g hb hn] at hh
  have hmul : 0 ≤ (l.length : Int) * g := Int.mul_nonneg (by omega) hg0
  have hy := gap_yes h (by omega)
  refine ⟨?_, hy.2⟩
  rw [hy.1]
  have hge : g ≤ (e - runT l a b c 0 0 0) / l.length := (Int.le_ediv_iff_mul_le (by omega)).2 (by rw [Int.mul_comm]; omega)
  by_cases e300 : g = 300
  · omega
  · have := hno (g + 1) (by omega) (by omega)
    rw [runT_gap l a b c (g + 1) hb hn, Int.mul_add] at this
    have hlt : (e - runT l a b c 0 0 0) / l.length < g + 1 := (Int.ediv_lt_iff_lt_mul (by omega)).2 (by rw [Int.mul_comm, Int.mul_add]; omega)
    omega
theorem timedB_gap {l : List (Int × Int)} {a b c gap g : Int} (h : timedB l a b c gap = true) (h0 : 0 ≤ g) (h1 : g ≤ 300) : timedB l a b c g = true := by
  obtain ⟨h2, h3⟩ := timedB_of h
  simp only [dayB, Bool.and_eq_true] at h3
  have : inB g 0 300 = true := inB_iff.2 ⟨h0, h1⟩
  simp [timedB, dayB, h2, h3.1.1.1, h3.1.1.2, h3.1.2, this]
theorem ext_setbox (w x : World) (cs : Array Value) (ty j : Nat) (v : Value) : (ext (w.alloc (.cells cs ty)) x).setCell ⟨w.heap.size, j, none⟩ v = ext (w.alloc (.cells (cs.setIfInBounds j v) ty)) x := by
  unfold ext World.setCell World.alloc
  simp only [World.mk.injEq, and_true, true_and]
  apply Array.ext_getElem?
  intro i
  rw [Array.getElem?_modify]
  simp only [Array.getElem?_append, Array.getElem?_push, Array.size_push]
  by_cases h1 : i < w.heap.size
  · have n1 : ¬ w.heap.size = i := by omega
    have n2 : i < w.heap.size + 1 := by omega
    have n3 : ¬ i = w.heap.size := by omega
    simp [n1, n2, n3]
  · by_cases h2 : w.heap.size = i
    · subst h2; simp
    · rw [if_neg h2, if_neg (by omega), if_neg (by omega)]
theorem ext_ext (w x y : World) : ext (ext w x) y = ext w (ext x y) := by unfold ext; simp [Array.append_assoc]
theorem ext_setbox2 (w x y : World) (cs : Array Value) (ty j : Nat) (v : Value) : (ext (ext (w.alloc (.cells cs ty)) x) y).setCell ⟨w.heap.size, j, none⟩ v = ext (w.alloc (.cells (cs.setIfInBounds j v) ty)) (ext x y) := by
  rw [ext_ext, ext_setbox]
theorem gap_more {l : List (Int × Int)} {a b c t g : Int} (hno : ∀ g', g < g' → g' ≤ 300 → Hid (t < runT l a b c g' 0 0)) (h : t < runT l a b c g 0 0) : ∀ g', g - 1 < g' → g' ≤ 300 → Hid (t < runT l a b c g' 0 0) := fun g' h1 h2 => by
  by_cases e : g' = g
  · subst e; exact h
  · exact hno g' (by omega) h2
end Go.Proofs.YtpjaiihkgeabiaaDoor
namespace Go.Proofs.YtpjaiihkgeabiaaDoor
def serB (l : List Int) : Bool := inB l.length 1 60 && allB l (-100000) 100000
theorem serB_of {l : List Int} (h : serB l = true) : (1 ≤ l.length ∧ l.length ≤ 60) ∧ ∀ x ∈ l, -100000 ≤ x ∧ x ≤ 100000 := by
  simp only [serB, Bool.and_eq_true] at h
  have h1 := inB_iff.1 h.1
  exact ⟨by omega, allB_of h.2⟩
def sumTo (l : List Int) (k : Nat) : Int := (l.take k).sum
theorem sumTo_succ (l : List Int) (k : Nat) (h : k < l.length) : sumTo l (k + 1) = sumTo l k + l[k]?.getD 0 := by
  unfold sumTo; rw [take_succ_getD 0 l k h]; simp
theorem sumTo_bd {l : List Int} {c : Int} (hc : 0 ≤ c) (hb : ∀ x ∈ l, -c ≤ x ∧ x ≤ c) (k : Nat) : -(c * k) ≤ sumTo l k ∧ sumTo l k ≤ c * k := by
  induction k with
  | zero => simp [sumTo]
  | succ k ih =>
    by_cases h : k < l.length
    · rw [sumTo_succ l k h]
      have := hb _ (getD_mem 0 l k h)
      have e : c * ((k + 1 : Nat) : Int) = c * k + c := by push_cast; rw [Int.mul_add, Int.mul_one]
      rw [e]; omega
    · have e1 : sumTo l (k + 1) = sumTo l k := by unfold sumTo; rw [List.take_of_length_le (by omega), List.take_of_length_le (by omega)]
      have e : c * ((k + 1 : Nat) : Int) = c * k + c := by push_cast; rw [Int.mul_add, Int.mul_one]
      rw [e1, e]; omega
theorem mul_bd {a b A B : Int} (h1 : -A ≤ a) (h2 : a ≤ A) (h3 : 0 ≤ b) (h4 : b ≤ B) : -(A * B) ≤ a * b ∧ a * b ≤ A * B := by
  have hA : 0 ≤ A := by omega
  have e1 : a * b ≤ A * b := Int.mul_le_mul_of_nonneg_right h2 h3
  have e2 : A * b ≤ A * B := Int.mul_le_mul_of_nonneg_left h4 hA
  have e3 : -A * b ≤ a * b := Int.mul_le_mul_of_nonneg_right h1 h3
  have e4 : -A * b = -(A * b) := Int.neg_mul _ _
  omega
/-- The greatest common divisor as Go's loop finds it. -/
def gcdV (a b : Int) : Int := (Nat.gcd a.natAbs b.natAbs : Nat)
theorem gcdV_step {a b : Int} (ha : 0 ≤ a) (hb : 0 < b) : gcdV b (a.tmod b) = gcdV a b := by
  unfold gcdV
  rw [Int.natAbs_tmod, Nat.gcd_comm b.natAbs, ← Nat.gcd_rec, Nat.gcd_comm]
theorem gcdV_stepE {a b : Int} (ha : 0 ≤ a) (hb : 0 < b) : gcdV b (a % b) = gcdV a b := by
  rw [← Int.tmod_eq_emod_of_nonneg ha]; exact gcdV_step ha hb
theorem gcdV_same {x y a b : Int} (h : x = a ∨ x = -a) (h' : y = b ∨ y = -b) : gcdV x y = gcdV a b := by
  unfold gcdV; congr 2 <;> omega
theorem gcdV_zero {a : Int} (ha : 0 ≤ a) : gcdV a 0 = a := by unfold gcdV; simp; omega
theorem gcdV_abs (a b : Int) : gcdV (max a (-a)) b = gcdV a b := by unfold gcdV; congr 2; omega
theorem gcdV_abs2 (a b : Int) : gcdV a (max b (-b)) = gcdV a b := by unfold gcdV; congr 2; omega
theorem gcdV_pos {a b : Int} (hb : 0 < b) : 0 < gcdV a b := by
  unfold gcdV
  have := Nat.gcd_pos_of_pos_right a.natAbs (show 0 < b.natAbs by omega)
  omega
theorem gcdV_le {a b : Int} (hb : 0 < b) : gcdV a b ≤ b := by
  unfold gcdV
  have := Nat.gcd_le_right a.natAbs (show 0 < b.natAbs by omega)
  omega
theorem tdiv_bd (a d : Int) (hd : 0 < d) : (0 ≤ a → 0 ≤ a.tdiv d ∧ a.tdiv d ≤ a) ∧ (a ≤ 0 → a ≤ a.tdiv d ∧ a.tdiv d ≤ 0) := by
  have pos : ∀ x : Int, 0 ≤ x → 0 ≤ x.tdiv d ∧ x.tdiv d ≤ x := fun x hx => by
    rw [Int.tdiv_eq_ediv_of_nonneg hx]
    exact ⟨Int.ediv_nonneg hx (by omega), Int.ediv_le_self _ hx⟩
  refine ⟨pos a, fun h => ?_⟩
  have := pos (-a) (by omega)
  rw [Int.neg_tdiv] at this
  omega
/-- The top of a / b in lowest terms, and what lies below the line. -/
def lowA (a b : Int) : Int := a.tdiv (gcdV a b)
def lowB (a b : Int) : Int := b.tdiv (gcdV a b)
/-- Sum of the d last entries that end at i, going down. -/
def dnSum (l : List Int) (i : Nat) : Nat → Int
  | 0 => 0
  | d + 1 => dnSum l i d + l[i - d]?.getD 0
def dnMost (l : List Int) (i : Nat) : Nat → Int
  | 0 => 0
  | d + 1 => max (dnMost l i d) (max (dnSum l i (d + 1)) (-dnSum l i (d + 1)))
def driftV (l : List Int) (i : Nat) : Int := dnMost l i (i + 1)
def dnHi (l : List Int) (i : Nat) : Nat → Int
  | 0 => 0
  | d + 1 => max (dnHi l i d) (dnSum l i (d + 1))
def dnLo (l : List Int) (i : Nat) : Nat → Int
  | 0 => 0
  | d + 1 => min (dnLo l i d) (dnSum l i (d + 1))
theorem dnMost_eq (l : List Int) (i d : Nat) : dnMost l i d = max (dnHi l i d) (-dnLo l i d) := by
  induction d with
  | zero => simp [dnMost, dnHi, dnLo]
  | succ d ih => simp only [dnMost, dnHi, dnLo, ih]; omega
theorem dnSum_up (l : List Int) (i d : Nat) (h : d ≤ i + 1) : dnSum l (i + 1) (d + 1) = l[i + 1]?.getD 0 + dnSum l i d := by
  induction d with
  | zero => simp [dnSum]
  | succ d ih => rw [dnSum, ih (by omega), dnSum, show i + 1 - (d + 1) = i - d by omega]; omega
theorem dnHi_up (l : List Int) (i d : Nat) (h : d ≤ i + 1) : dnHi l (i + 1) (d + 1) = max 0 (l[i + 1]?.getD 0 + dnHi l i d) := by
  induction d with
  | zero => simp [dnHi, dnSum]
  | succ d ih => rw [dnHi, ih (by omega), dnSum_up l i (d + 1) h, dnHi]; omega
theorem dnLo_up (l : List Int) (i d : Nat) (h : d ≤ i + 1) : dnLo l (i + 1) (d + 1) = min 0 (l[i + 1]?.getD 0 + dnLo l i d) := by
  induction d with
  | zero => simp [dnLo, dnSum]
  | succ d ih => rw [dnLo, ih (by omega), dnSum_up l i (d + 1) h, dnLo]; omega
/-- The reference's greatest and least sums that end at i. -/
def hiAt (l : List Int) : Nat → Int
  | 0 => l[0]?.getD 0
  | i + 1 => l[i + 1]?.getD 0 + max (hiAt l i) 0
def loAt (l : List Int) : Nat → Int
  | 0 => l[0]?.getD 0
  | i + 1 => l[i + 1]?.getD 0 + min (loAt l i) 0
theorem hiAt_eq (l : List Int) (i : Nat) : max (hiAt l i) 0 = dnHi l i (i + 1) := by
  induction i with
  | zero => simp [hiAt, dnHi, dnSum]; omega
  | succ i ih => rw [dnHi_up l i (i + 1) (by omega), ← ih, hiAt]; omega
theorem loAt_eq (l : List Int) (i : Nat) : min (loAt l i) 0 = dnLo l i (i + 1) := by
  induction i with
  | zero => simp [loAt, dnLo, dnSum]; omega
  | succ i ih => rw [dnLo_up l i (i + 1) (by omega), ← ih, loAt]; omega
theorem hi_lo (l : List Int) (i : Nat) : loAt l i ≤ l[i]?.getD 0 ∧ l[i]?.getD 0 ≤ hiAt l i := by
  cases i with
  | zero => simp [hiAt, loAt]
  | succ i => simp only [hiAt, loAt]; omega
theorem drift_eq (l : List Int) (i : Nat) : max (hiAt l i) (-loAt l i) = driftV l i := by
  rw [driftV, dnMost_eq, ← hiAt_eq, ← loAt_eq]
  have := hi_lo l i
  omega
theorem hiAt_bd {l : List Int} (hb : ∀ k : Nat, -100000 ≤ l[k]?.getD 0 ∧ l[k]?.getD 0 ≤ 100000) (i : Nat) : (-100000 ≤ hiAt l i ∧ hiAt l i ≤ 100000 * (i + 1)) ∧ (-(100000 * (i + 1)) ≤ loAt l i ∧ loAt l i ≤ 100000) := by
  induction i with
  | zero => have := hb 0; simp only [hiAt, loAt]; omega
  | succ i ih => have := hb (i + 1); simp only [hiAt, loAt]; push_cast; omega
theorem dn_bd {l : List Int} (hb : ∀ k : Nat, -100000 ≤ l[k]?.getD 0 ∧ l[k]?.getD 0 ≤ 100000) (i d : Nat) : (-(100000 * (d : Int)) ≤ dnSum l i d ∧ dnSum l i d ≤ 100000 * d) ∧ 0 ≤ dnMost l i d ∧ dnMost l i d ≤ 100000 * d := by
  induction d with
  | zero => simp [dnSum, dnMost]
  | succ d ih => have := hb (i - d); simp only [dnSum, dnMost]; push_cast; omega
theorem getD_bd {l : List Int} (hb : ∀ x ∈ l, -100000 ≤ x ∧ x ≤ 100000) (k : Nat) : -100000 ≤ l[k]?.getD 0 ∧ l[k]?.getD 0 ≤ 100000 := by
  by_cases h : k < l.length
  · exact hb _ (getD_mem 0 l k h)
  · simp [List.getElem?_eq_none (Nat.le_of_not_lt h)]
def mostTo (l : List Int) : Nat → Int
  | 0 => 0
  | k + 1 => max (mostTo l k) (driftV l k)
end Go.Proofs.YtpjaiihkgeabiaaDoor
namespace Go.Proofs.YtpjaiihkgeabiaaDoor
open Go.RowKit
theorem firstIdx_at {p : Nat → Bool} {n : Nat} (h : (firstIdx p n).2 = true) : (firstIdx p n).1 < n ∧ p (firstIdx p n).1 = true := by
  unfold firstIdx at *
  cases hf : (List.range n).find? p with
  | none => rw [hf] at h; cases h
  | some i =>
    have h1 := List.find?_range_eq_some.1 hf
    exact ⟨by simpa using h1.2.1, h1.1⟩
/-- Who is on the ice. -/
theorem ice_facts {l : List (Int × Int)} {a b c gap t : Int} (h : iceB l a b c gap t = true) :
    ∃ j : Nat, iceV l a b c gap t = j ∧ j < l.length ∧ timedB l a b c gap = true ∧ startsV l a b c gap = runS l a b c gap 0 0 ∧ (runS l a b c gap 0 0).length = l.length ∧
      (runS l a b c gap 0 0)[j]?.getD 0 ≤ t ∧ t < (runS l a b c gap 0 0)[j]?.getD 0 + (l[j]?.getD (0, 0)).2 ∧ 0 ≤ (runS l a b c gap 0 0)[j]?.getD 0 ∧ (runS l a b c gap 0 0)[j]?.getD 0 ≤ 1000000 ∧ 0 ≤ (l[j]?.getD (0, 0)).2 ∧ (l[j]?.getD (0, 0)).2 ≤ 300 := by
  unfold iceB iceR at h
  cases hk : iceOk l a b c gap t with
  | false => rw [hk] at h; simp at h
  | true =>
    rw [hk, if_pos rfl] at h
    have hf := firstIdx_at h
    have ht : timedB l a b c gap = true := by simp only [iceOk, Bool.and_eq_true] at hk; exact hk.1
    obtain ⟨hs, hd⟩ := timedB_of ht
    have hb : 1 ≤ b := by simp only [dayB, Bool.and_eq_true] at hd; have := inB_iff.1 hd.1.1.2; omega
    have hl := runS_len (l := l) (a := a) (b := b) (c := c) (gap := gap) (i := 0) (delay := 0) hs hb
    have hbd := runS_bd ht (i := 0) (delay := 0) (by omega) (by omega) _ (getD_mem 0 (runS l a b c gap 0 0) _ (by rw [hl]; exact hf.1))
    have hm := slotsB_music hs _ hf.1
    have h2 := hf.2
    simp only [iceAt, Bool.and_eq_true, decide_eq_true_eq] at h2
    exact ⟨_, by simp [iceV, iceR, hk], hf.1, ht, by simp [startsV, ht], hl, h2.1, h2.2, hbd.1, hbd.2, by omega, hm.2⟩
/-- Sizes of groups. -/
theorem group_facts {n size : Int} (h : groupsOk n size = true) :
    groupsV n size = groupsOf n size ∧ ((groupsOf n size).length : Int) = (n + size - 1) / size ∧ (1 ≤ n ∧ n ≤ 40 ∧ 1 ≤ size ∧ size ≤ 8) ∧ 1 ≤ (groupsOf n size).length ∧ (groupsOf n size).length ≤ 40 ∧
      sumTo (groupsOf n size) (groupsOf n size).length = n ∧
      (∀ k, k < (groupsOf n size).length → 1 ≤ (groupsOf n size)[k]?.getD 0 ∧ (groupsOf n size)[k]?.getD 0 ≤ size ∧ (groupsOf n size)[k]?.getD 0 ≤ (groupsOf n size)[0]?.getD 0 + 1) ∧
      ∀ k, k + 1 < (groupsOf n size).length → (groupsOf n size)[k]?.getD 0 ≤ (groupsOf n size)[k + 1]?.getD 0 := by
  have h' := h
  simp only [groupsOk, Bool.and_eq_true] at h'
  have h1 := inB_iff.1 h'.1
  have h2 := inB_iff.1 h'.2
  have hM := many_bd n size h1.1 h2.1
  have hlen : (groupsOf n size).length = ((n + size - 1) / size).toNat := by simp [groupsOf, tiGroupsL_len, manyOf]
  have hpos := groups_pos n size h1.1 h2.1
  have hall := groups_all n size h1.1 h2.1
  have hsum : ∀ k, k ≤ (groupsOf n size).length → sumTo (groupsOf n size) k = (outK (groupsOf n size) k : Int) := by
    intro k hk
    induction k with
    | zero => simp [sumTo, outK]
    | succ k ih =>
      have hp := hpos k (by omega)
      rw [sumTo_succ _ _ (by omega), outK_succ _ _ (by omega), ih (by omega)]
      omega
  have hget : ∀ k, k < (groupsOf n size).length → (groupsOf n size)[k]?.getD 0 = n / ((n + size - 1) / size) + if (n + size - 1) / size - n % ((n + size - 1) / size) ≤ (k : Int) then 1 else 0 := by
    intro k hk
    rw [hlen] at hk
    unfold groupsOf manyOf tiGroupsL
    simp only [List.getElem?_map, List.getElem?_range hk, Option.map_some, Option.getD_some]
  have hr1 := Int.emod_nonneg n (show (n + size - 1) / size ≠ 0 by omega)
  have hr2 := Int.emod_lt_of_pos n (show 0 < (n + size - 1) / size by omega)
  have hdm := Int.mul_ediv_add_emod n ((n + size - 1) / size)
  have hup : n ≤ (n + size - 1) / size * size := by
    have := Int.lt_ediv_add_one_mul_self (n + size - 1) (show 0 < size by omega)
    rw [Int.add_mul] at this
    omega
  have hmul : (n + size - 1) / size * (n / ((n + size - 1) / size)) ≤ (n + size - 1) / size * size := by omega
  have hq : n / ((n + size - 1) / size) ≤ size := Int.le_of_mul_le_mul_left hmul (by omega)
  have hq1 : 0 < n % ((n + size - 1) / size) → n / ((n + size - 1) / size) + 1 ≤ size := by
    intro hr
    have h3 : (n + size - 1) / size * (n / ((n + size - 1) / size)) < (n + size - 1) / size * size := by omega
    have := Int.lt_of_mul_lt_mul_left h3 (by omega)
    omega
  have hl1 : 1 ≤ (groupsOf n size).length := by omega
  refine ⟨by simp [groupsV, h], by omega, ⟨h1.1, h1.2, h2.1, h2.2⟩, hl1, by omega, ?_, fun k hk => ?_, fun k hk => ?_⟩
  · rw [hsum _ (Nat.le_refl _)]; exact hall
  · have hp := hpos k hk
    refine ⟨hp.1, ?_, ?_⟩
    · rw [hget k hk]
      split
      · rename_i hc
        have : 0 < n % ((n + size - 1) / size) := by omega
        exact hq1 this
      · omega
    · rw [hget k hk, hget 0 (by omega)]
      split <;> split <;> omega
  · rw [hget k (by omega), hget (k + 1) hk]
    split <;> split <;> omega
/-- The music of the first k slots. -/
def musTo (l : List (Int × Int)) : Nat → Int
  | 0 => 0
  | k + 1 => musTo l k + (l[k]?.getD (0, 0)).2
section
variable {l : List (Int × Int)} {a c gap : Int} {gs : List Int}
theorem innT_sum (k0 : Nat) (t0 : Int) (j : Nat) : innT l gap 0 0 k0 t0 j = t0 + (musTo l (k0 + j) - musTo l k0) + j * gap := by
  induction j with
  | zero => simp [innT]
  | succ j ih =>
    have e : ((j + 1 : Nat) : Int) * gap = j * gap + gap := by rw [Int.natCast_add, Int.add_mul]; simp
    rw [innT, ih, e, show k0 + (j + 1) = (k0 + j) + 1 by omega, musTo]
    unfold nxtT
    split <;> omega
theorem outT_sum (g : Nat) (h : g ≤ gs.length) : outT l a c gap 0 0 gs g = a + musTo l (outK gs g) + outK gs g * gap + g * c := by
  induction g with
  | zero => simp [outT, outK, musTo]
  | succ g ih =>
    have e : ((g + 1 : Nat) : Int) * c = g * c + c := by rw [Int.natCast_add, Int.add_mul]; simp
    rw [outT, innT_sum, ih (by omega), outK_succ gs g (by omega), e, Int.natCast_add, Int.add_mul]
    omega
theorem innT_get (k0 : Nat) (t0 : Int) (j k : Nat) (hk : k < j) : (innS l gap 0 0 k0 t0 j)[k]?.getD 0 = innT l gap 0 0 k0 t0 k := by simp [innS, hk]
/-- The first start of each group. -/
theorem outS_first (hp : ∀ k, k < gs.length → 1 ≤ gs[k]?.getD 0) (g : Nat) (h : g ≤ gs.length) (j : Nat) (hj : j < g) : (outS l a c gap 0 0 gs g)[outK gs j]?.getD 0 = outT l a c gap 0 0 gs j + c := by
  induction g with
  | zero => omega
  | succ g ih =>
    have hlen := outS_len l a c gap 0 0 gs g (by omega)
    have hg := hp g (by omega)
    rw [outS]
    by_cases hlt : j < g
    · have h1 := outK_mono gs (j + 1) g (by omega)
      rw [outK_succ gs j (by omega)] at h1
      have h2 := hp j (by omega)
      rw [List.getElem?_append_left (by omega)]
      exact ih (by omega) hlt
    · obtain rfl : j = g := by omega
      rw [List.getElem?_append_right (by omega), hlen, Nat.sub_self, innT_get _ _ _ _ (by omega), innT]
/-- The end of a group is the distance behind its last start. -/
theorem outS_last (hp : ∀ k, k < gs.length → 1 ≤ gs[k]?.getD 0) (g : Nat) (h : g + 1 ≤ gs.length) : outT l a c gap 0 0 gs (g + 1) = (outS l a c gap 0 0 gs (g + 1))[outK gs (g + 1) - 1]?.getD 0 + ((l[outK gs (g + 1) - 1]?.getD (0, 0)).2 + gap) := by
  have hlen := outS_len l a c gap 0 0 gs g (by omega)
  have hg := hp g (by omega)
  rw [outS, outT, outK_succ gs g (by omega)]
  obtain ⟨x, hx⟩ : ∃ x, (gs[g]?.getD 0).toNat = x + 1 := ⟨(gs[g]?.getD 0).toNat - 1, by omega⟩
  rw [hx, List.getElem?_append_right (by omega), hlen, show outK gs g + (x + 1) - 1 - outK gs g = x by omega, innT_get _ _ _ _ (by omega), innT, show outK gs g + (x + 1) - 1 = outK gs g + x by omega]
  unfold nxtT
  split <;> omega
theorem outS_step (hc : 0 ≤ c) (hp : ∀ k, k < gs.length → 1 ≤ gs[k]?.getD 0) (g : Nat) (h : g ≤ gs.length) (k : Nat) (hk : k + 1 < outK gs g) :
    (outS l a c gap 0 0 gs g)[k]?.getD 0 + ((l[k]?.getD (0, 0)).2 + gap) ≤ (outS l a c gap 0 0 gs g)[k + 1]?.getD 0 := by
  induction g with
  | zero => simp [outK] at hk
  | succ g ih =>
    have hlen := outS_len l a c gap 0 0 gs g (by omega)
    rw [outK_succ gs g (by omega)] at hk
    rw [outS]
    by_cases h1 : k + 1 < outK gs g
    · rw [List.getElem?_append_left (by omega), List.getElem?_append_left (by omega)]
      exact ih (by omega) h1
    · rw [List.getElem?_append_right (show (outS l a c gap 0 0 gs g).length ≤ k + 1 by omega), hlen, innT_get _ _ _ _ (by omega)]
      by_cases h2 : k < outK gs g
      · have h3 : k + 1 = outK gs g := by omega
        rw [List.getElem?_append_left (by omega), show k + 1 - outK gs g = 0 by omega, innT]
        cases g with
        | zero => simp [outK] at h2
        | succ g =>
          have h4 := outS_last (l := l) (a := a) (c := c) (gap := gap) hp g (by omega)
          rw [← h3, Nat.add_sub_cancel] at h4
          omega
      · obtain ⟨j, rfl⟩ : ∃ j, k = outK gs g + j := ⟨k - outK gs g, by omega⟩
        rw [List.getElem?_append_right (by omega), hlen, innT_get _ _ _ _ (by omega), show outK gs g + j - outK gs g = j by omega, show outK gs g + j + 1 - outK gs g = j + 1 by omega, innT]
        unfold nxtT
        split <;> omega
end
theorem musTo_bd {l : List (Int × Int)} (h : ∀ k, k < l.length → 0 ≤ (l[k]?.getD (0, 0)).2 ∧ (l[k]?.getD (0, 0)).2 ≤ 300) (k : Nat) (hk : k ≤ l.length) : 0 ≤ musTo l k ∧ musTo l k ≤ 300 * k := by
  induction k with
  | zero => simp [musTo]
  | succ k ih =>
    have h1 := ih (by omega)
    have h2 := h k (by omega)
    rw [musTo]
    omega
/-- The times of a day. -/
theorem day_facts {l : List (Int × Int)} {a b c gap : Int} (h : timedB l a b c gap = true) :
    ∃ G S W : List Int, groupsOf l.length b = G ∧ startsV l a b c gap = S ∧ warmsV l a b c gap = W ∧ groupsOk l.length b = true ∧ S.length = l.length ∧ W.length = G.length ∧ W[0]?.getD 0 = a ∧ (1 ≤ l.length ∧ l.length ≤ 40) ∧ (1 ≤ G.length ∧ G.length ≤ 40) ∧
      (∀ j, j < G.length → outK G j < l.length ∧ outK G (j + 1) = outK G j + (G[j]?.getD 0).toNat ∧ 1 ≤ G[j]?.getD 0 ∧ G[j]?.getD 0 ≤ 40 ∧ S[outK G j]?.getD 0 = W[j]?.getD 0 + c ∧ 0 ≤ W[j]?.getD 0 ∧ W[j]?.getD 0 ≤ 1000000) ∧
      (∀ k, k + 1 < l.length → S[k]?.getD 0 + ((l[k]?.getD (0, 0)).2 + gap) ≤ S[k + 1]?.getD 0) ∧ (∀ k, k < l.length → 0 ≤ S[k]?.getD 0 ∧ S[k]?.getD 0 ≤ 1000000) ∧
      endV l a b c gap = a + musTo l l.length + l.length * gap + G.length * c ∧ (∀ k, k ≤ l.length → 0 ≤ musTo l k ∧ musTo l k ≤ 12000) ∧ (∀ k, k < l.length → 0 ≤ (l[k]?.getD (0, 0)).2 ∧ (l[k]?.getD (0, 0)).2 ≤ 300) ∧
      (0 ≤ a ∧ a ≤ 86400) ∧ (1 ≤ b ∧ b ≤ 8) ∧ (0 ≤ c ∧ c ≤ 600) ∧ (0 ≤ gap ∧ gap ≤ 300) := by
  obtain ⟨hs, hd⟩ := timedB_of h
  have hd' := hd
  simp only [dayB, Bool.and_eq_true] at hd'
  obtain ⟨⟨⟨ka, kb⟩, kc⟩, kg⟩ := hd'
  have ka := inB_iff.1 ka
  have kb := inB_iff.1 kb
  have kc := inB_iff.1 kc
  have kg := inB_iff.1 kg
  have hsl := slotsB_of hs
  have hok : groupsOk l.length b = true := by
    simp only [groupsOk, Bool.and_eq_true]
    exact ⟨inB_iff.2 (by omega), inB_iff.2 (by omega)⟩
  have hgf := group_facts hok
  have hp : ∀ k, k < (groupsOf l.length b).length → 1 ≤ (groupsOf l.length b)[k]?.getD 0 := fun k hk => (hgf.2.2.2.2.2.2.1 k hk).1
  have hall := groups_all l.length b (by omega) kb.1
  have hmus := fun k hk => slotsB_music hs k hk
  have hm' : ∀ k, k < l.length → 0 ≤ (l[k]?.getD (0, 0)).2 ∧ (l[k]?.getD (0, 0)).2 ≤ 300 := fun k hk => by have := hmus k hk; omega
  have hSl := runS_len (l := l) (a := a) (b := b) (c := c) (gap := gap) (i := 0) (delay := 0) hs kb.1
  have hSb := runS_bd h (i := 0) (delay := 0) (by omega) (by omega)
  have htm : Timed l gap 0 := ⟨hm', kg.1, kg.2, by omega, by omega⟩
  refine ⟨groupsOf l.length b, runS l a b c gap 0 0, runW l a b c gap 0 0, rfl, by simp [startsV, h], by simp [warmsV, h], hok, hSl, ?_, ?_, ⟨hsl.2.1, hsl.2.2⟩, ⟨hgf.2.2.2.1, hgf.2.2.2.2.1⟩, fun j hj => ?_, fun k hk => ?_, fun k hk => ?_, ?_, fun k hk => ?_, hm', ka, kb, kc, kg⟩
  · unfold runW; rw [outW_len]
  · unfold runW outW; simp [show 0 < (groupsOf l.length b).length by omega, outT]
  · have h1 := outK_mono (groupsOf l.length b) (j + 1) (groupsOf l.length b).length (by omega)
    have h2 := outK_succ (groupsOf l.length b) j hj
    have h3 := hp j hj
    have h4 := (hgf.2.2.2.2.2.2.1 j hj).2.1
    have hw : (runW l a b c gap 0 0)[j]?.getD 0 = outT l a c gap 0 0 (groupsOf l.length b) j := by unfold runW outW; simp [hj]
    have hbd := outT_bd (l := l) (start := a) (warm := c) (gap := gap) (i := 0) (delay := 0) (gs := groupsOf l.length b) (g := j) htm kc.1 kc.2 ka.1 ka.2 (by omega) (by omega)
    refine ⟨by omega, h2, h3, by omega, ?_, by rw [hw]; exact hbd.1, by rw [hw]; omega⟩
    rw [hw]
    exact outS_first hp _ (Nat.le_refl _) j hj
  · exact outS_step kc.1 hp _ (Nat.le_refl _) k (by omega)
  · exact hSb _ (getD_mem 0 _ k (by rw [hSl]; exact hk))
  · rw [endV, if_pos h]
    unfold runT
    rw [outT_sum _ (Nat.le_refl _)]
    have e : outK (groupsOf l.length b) (groupsOf l.length b).length = l.length := by omega
    rw [e]
  · have := musTo_bd hm' k hk
    omega
end Go.Proofs.YtpjaiihkgeabiaaDoor
namespace Go.Proofs.YtpjaiihkgeabiaaDoor
open Go.RowKit
theorem ret_str {a b : ByteArray} (h : a = b) : Ending.returned (.string a) = .returned (.string b) := by rw [h]
def RdT (w : World) (A : Option Addr) (n : Nat) (l : List ByteArray) : Prop := Rd 1 w A n (l.map Value.string)
def OwT (base : Nat) (w : World) (A : Option Addr) (n c : Nat) (l : List ByteArray) : Prop := Ow 9 1 base w A n c (l.map Value.string)
theorem string_info : (Tryd.prog.info? 9).map (fun i => (i.zero, i.size, i.bytes)) = some (some (.string ByteArray.empty), 1, 16) := by kernel_rfl
section
variable {base base' n c : Nat} {w w' : World} {A : Option Addr} {l : List ByteArray}
theorem RdT.below (h : RdT w A n l) (hb : Below w.heap.size w w') : RdT w' A n l := Rd.below h hb
theorem RdT.len (h : RdT w A n l) : l.length = n := by have := h.1; simpa using this
theorem RdT.open_ (h : RdT w A n l) (hn : 0 < n) : ∃ b off, A = some ⟨b, off, none⟩ ∧ b < w.heap.size ∧ ∀ j, j < n → w.cell? ⟨b, off + j, none⟩ = some (.string (l[j]?.getD ByteArray.empty)) := by
  have hl := h.len
  obtain ⟨b, off, e, hlt, hc⟩ := h.2 hn
  refine ⟨b, off, e, hlt, fun j hj => hc j _ ?_⟩
  have hj' : j < l.length := by omega
  simp [hj']
theorem OwT.len (h : OwT base w A n c l) : l.length = n := by have := Ow.len h; simpa using this
theorem OwT.below (h : OwT base w A n c l) (hb : Below w.heap.size w w') : OwT base w' A n c l := Ow.below h hb
theorem OwT.kept {row : Option Nat} (h : OwT base w A n c l) (hg : w.grownBy w' row) (hne : blkOf A = none ∨ blkOf A ≠ row) : OwT base w' A n c l := Ow.kept h hg hne
theorem OwT.mono (h : OwT base w A n c l) (hb : base' ≤ base) : OwT base' w A n c l := Ow.mono h hb
theorem OwT.nil_ : OwT base w none 0 0 [] := Ow.nil_
theorem OwT.rd (h : OwT base w A n c l) : RdT w A n l := Ow.rd h
theorem OwT.cap_ (h : OwT base w A n c l) : n ≤ c ∧ c ≤ maxLen := Ow.cap_ h
theorem OwT.blk (h : OwT base w A n c l) {g : Nat} (hA : blkOf A = some g) : base ≤ g ∧ g < w.heap.size := Ow.blk h hA
theorem OwT.form_ (h : OwT base w A n c l) (hn : 0 < n) : ∃ g, A = some ⟨g, 0, none⟩ ∧ base ≤ g ∧ g < w.heap.size := Ow.form_ h hn
theorem OwT.cell_ {g : Nat} (h : OwT base w (some ⟨g, 0, none⟩) n c l) (j : Nat) (hj : j < n) : w.cell? ⟨g, j, none⟩ = some (.string (l[j]?.getD ByteArray.empty)) := by
  have hl := h.len
  rw [Ow.cell_ h j (by omega)]
  simp [show j < l.length by omega]
theorem OwT.frozen_ {g : Nat} (h : OwT base w (some ⟨g, 0, none⟩) n c l) (j : Nat) : w.frozen? ⟨g, j, none⟩ = false := Ow.frozen_ h j
theorem OwT.stored_ {g : Nat} (h : OwT base w (some ⟨g, 0, none⟩) n c l) (j : Nat) (u : ByteArray) :
    OwT base (w.setCell ⟨g, j, none⟩ (.string u)) (some ⟨g, 0, none⟩) n c (l.set j u) ∧ w.grownBy (w.setCell ⟨g, j, none⟩ (.string u)) (some g) := by
  have := Ow.stored_ h j (.string u)
  refine ⟨?_, this.2⟩
  unfold OwT
  rw [List.map_set]
  exact this.1
theorem OwT.lit_ {R w : World} (hR : Below R.heap.size R w) (l : List ByteArray) (hl : l.length ≤ maxLen) (cs : Array Value) (hcs : cs.toList = l.map Value.string) :
    OwT R.heap.size (w.alloc (.cells cs 9)) (some ⟨w.heap.size, 0, none⟩) l.length l.length l := by
  have hs : cs.size = l.length * 1 := by rw [← Array.length_toList, hcs]; simp
  have := World.ownsRow_lit (base := R.heap.size) (e := 9) (size := 1) w cs l.length hR.size hl hs
  rw [hcs] at this
  exact this
theorem bdT (h : OwT base w A n c l) (hl : l.length ≤ 1048576) : n ≤ 1099511627776 := by have := h.len; omega
end
def RetT (w : World) (l : List ByteArray) (e : Ending) (w' : World) : Prop := ∃ A n c x, e = .returned (.slice A n c) ∧ w' = ext w x ∧ OwT w.heap.size (ext w x) A n c l
theorem RetT.mk_ {w W : World} {base : Nat} {A : Option Addr} {n c : Nat} {l : List ByteArray} (ho : OwT base W A n c l) (hbase : w.heap.size ≤ base) (hb : Below w.heap.size w W) : RetT w l (.returned (.slice A n c)) W := by
  obtain ⟨x, rfl⟩ := ext_ex hb
  exact ⟨A, n, c, x, rfl, rfl, ho.mono hbase⟩
/-- The string of one byte. -/
def oneB (n : Int) : ByteArray := ByteArray.empty.push (UInt8.ofNat n.toNat)
end Go.Proofs.YtpjaiihkgeabiaaDoor
namespace Go.Proofs.YtpjaiihkgeabiaaDoor
open Go.ChangeShapes Go.WideShapes Go.ChangeAt Go.RowKit Go.Deep
theorem wfY {x : Int} (h : (Lit.int .u8 x).wf = true) : 0 ≤ x ∧ x ≤ 255 := by
  have e1 : IntKind.u8.min = 0 := by decide
  have e2 : IntKind.u8.max = 255 := by decide
  unfold Lit.wf at h
  simp [e1, e2] at h
  omega
theorem open_RdY {H : Type} {enc : TypeId × Value → H} {W : World} {r : Reach} {base : Nat} {v : Value} {d : DataW H} {p : List MemPlace}
    (hv : Value.okWide Tryd.prog W r base 22 v) (h : DataW.Trod enc Tryd.prog W 0 (fun _ => true) true 22 v d p) :
    ∃ A n c l, v = .slice A n c ∧ RdY W A n l ∧ n ≤ c ∧ c ≤ maxLen := by
  obtain ⟨a0, len, cap, rfl⟩ := okWide_slice Tryd.underlying22 hv
  obtain ⟨fuel, hf⟩ := h
  rcases open_ints Tryd.underlying22 Tryd.underlying5 (by kernel_rfl) hf with ⟨hcs, _⟩ | ⟨x, l, c, zs, hcs, _, hl, hm, hz, _, hcell, hwz⟩
  · simp [Value.cells] at hcs
    obtain ⟨rfl, rfl, rfl⟩ := hcs
    exact ⟨none, 0, 0, [], rfl, ⟨⟨by simp, by omega⟩, by simp⟩, Nat.le_refl _, by simp [maxLen]⟩
  · simp [Value.cells] at hcs
    obtain ⟨rfl, rfl, rfl⟩ := hcs
    refine ⟨some x, len, cap, zs.take len, rfl, ⟨⟨?_, fun hn => ?_⟩, fun y hy => wfY (hwz y (List.mem_of_mem_take hy))⟩, hl, hm⟩
    · simp; simp at hz; omega
    · obtain ⟨b, off, spot⟩ := x
      have hzl : zs.length = cap := by simpa using hz
      have hc := hcell 0 (by omega)
      have hspot : spot = none := by simpa [Addr.add] using World.cell?_spot hc
      subst hspot
      have hb : b < W.heap.size := World.block_lt_of_cell? W _ (by simpa [Addr.add] using hc)
      refine ⟨b, off, rfl, hb, fun j u hu => ?_⟩
      simp only [List.getElem?_map, Option.map_eq_some_iff] at hu
      obtain ⟨y, hy, rfl⟩ := hu
      have hj : j < zs.length := by
        have := (List.getElem?_eq_some_iff.1 hy).1
        simp at this; omega
      have h2 := hcell j hj
      have hadd : (⟨b, off, none⟩ : Addr).add j = ⟨b, off + j, none⟩ := by unfold Addr.add; split <;> simp_all
      rw [hadd] at h2
      rw [h2]
      have : zs.getD j 0 = y := by
        rw [List.getElem?_take] at hy
        split at hy
        · simp [List.getD, hy]
        · cases hy
      rw [this]
end Go.Proofs.YtpjaiihkgeabiaaDoor
