/- The timing of a day, in plain words: when each slot's music and each group begins. Conditions: none. -/
import Derived.Test.YtpjaiihkgeabiaaDoorAreSlots
import Derived.Test.YtpjaiihkgeabiaaDoorGroups
set_option linter.unusedVariables false
set_option linter.unusedSimpArgs false
set_option maxRecDepth 100000
namespace Go.Proofs.YtpjaiihkgeabiaaDoor
def nxtT (l : List (Int × Int)) (gap i delay : Int) (k : Nat) (t : Int) : Int := t + ((l[k]?.getD (0, 0)).2 + gap) + (if (k : Int) = i then delay else 0)
def innT (l : List (Int × Int)) (gap i delay : Int) (k0 : Nat) (t0 : Int) : Nat → Int
  | 0 => t0
  | j + 1 => nxtT l gap i delay (k0 + j) (innT l gap i delay k0 t0 j)
def innS (l : List (Int × Int)) (gap i delay : Int) (k0 : Nat) (t0 : Int) (j : Nat) : List Int := (List.range j).map (innT l gap i delay k0 t0)
def outK (gs : List Int) (g : Nat) : Nat := ((gs.take g).map Int.toNat).sum
def outT (l : List (Int × Int)) (start warm gap i delay : Int) (gs : List Int) : Nat → Int
  | 0 => start
  | g + 1 => innT l gap i delay (outK gs g) (outT l start warm gap i delay gs g + warm) (gs[g]?.getD 0).toNat
def outW (l : List (Int × Int)) (start warm gap i delay : Int) (gs : List Int) (g : Nat) : List Int := (List.range g).map (outT l start warm gap i delay gs)
def outS (l : List (Int × Int)) (start warm gap i delay : Int) (gs : List Int) : Nat → List Int
  | 0 => []
  | g + 1 => outS l start warm gap i delay gs g ++ innS l gap i delay (outK gs g) (outT l start warm gap i delay gs g + warm) (gs[g]?.getD 0).toNat
section
variable (l : List (Int × Int)) (start warm gap i delay : Int) (gs : List Int) (k0 : Nat) (t0 : Int) (j g : Nat)
theorem innS_succ : innS l gap i delay k0 t0 (j + 1) = innS l gap i delay k0 t0 j ++ [innT l gap i delay k0 t0 j] := by simp [innS, List.range_succ]
theorem innS_len : (innS l gap i delay k0 t0 j).length = j := by simp [innS]
theorem outW_succ : outW l start warm gap i delay gs (g + 1) = outW l start warm gap i delay gs g ++ [outT l start warm gap i delay gs g] := by simp [outW, List.range_succ]
theorem outW_len : (outW l start warm gap i delay gs g).length = g := by simp [outW]
theorem outK_succ (h : g < gs.length) : outK gs (g + 1) = outK gs g + (gs[g]?.getD 0).toNat := by
  unfold outK; rw [take_succ_getD 0 gs g h]; simp
theorem outS_len (h : g ≤ gs.length) : (outS l start warm gap i delay gs g).length = outK gs g := by
  induction g with
  | zero => simp [outS, outK]
  | succ g ih => rw [outK_succ gs g (by omega), outS, List.length_append, innS_len, ih (by omega)]
theorem outK_mono (h : j ≤ g) : outK gs j ≤ outK gs g := by
  unfold outK
  have e : gs.take j = (gs.take g).take j := by rw [List.take_take, Nat.min_eq_left h]
  rw [e]
  generalize gs.take g = r
  rw [← List.take_append_drop j r, List.map_append, List.sum_append, List.take_append_drop]
  omega
end
/-- The numbers that the walk needs. -/
structure Timed (l : List (Int × Int)) (gap delay : Int) : Prop where
  music : ∀ k, k < l.length → 0 ≤ (l[k]?.getD (0, 0)).2 ∧ (l[k]?.getD (0, 0)).2 ≤ 300
  g0 : 0 ≤ gap
  g1 : gap ≤ 300
  d0 : 0 ≤ delay
  d1 : delay ≤ 3600
section
variable {l : List (Int × Int)} {start warm gap i delay : Int} {gs : List Int} {k0 : Nat} {t0 : Int} {j g : Nat}
theorem nxtT_bd (h : Timed l gap delay) (k : Nat) (hk : k < l.length) (t : Int) : t ≤ nxtT l gap i delay k t ∧ nxtT l gap i delay k t ≤ t + 4200 := by
  have := h.music k hk
  have := h.g0; have := h.g1; have := h.d0; have := h.d1
  unfold nxtT
  split <;> omega
theorem innT_bd (h : Timed l gap delay) (hk : k0 + j ≤ l.length) : t0 ≤ innT l gap i delay k0 t0 j ∧ innT l gap i delay k0 t0 j ≤ t0 + 4200 * j := by
  induction j with
  | zero => simp [innT]
  | succ j ih =>
    have h1 := ih (by omega)
    have h2 := nxtT_bd (i := i) h (k0 + j) (by omega) (innT l gap i delay k0 t0 j)
    rw [innT]
    omega
theorem outT_bd (h : Timed l gap delay) (hw0 : 0 ≤ warm) (hw1 : warm ≤ 600) (hs0 : 0 ≤ start) (hs1 : start ≤ 86400) (hg : g ≤ gs.length) (hk : outK gs g ≤ l.length) :
    0 ≤ outT l start warm gap i delay gs g ∧ outT l start warm gap i delay gs g ≤ 86400 + 600 * g + 4200 * outK gs g := by
  induction g with
  | zero => simp [outT, outK]; omega
  | succ g ih =>
    have e := outK_succ gs g (by omega)
    have h1 := ih (by omega) (by omega)
    have h2 := innT_bd (i := i) (k0 := outK gs g) (t0 := outT l start warm gap i delay gs g + warm) (j := (gs[g]?.getD 0).toNat) h (by omega)
    rw [outT]
    omega
end
theorem groups_sum (n M : Int) (hn : 0 ≤ n) (hM : 1 ≤ M) (k : Nat) (hk : (k : Int) ≤ M) : ((((tiGroupsL n M k).map Int.toNat).sum : Nat) : Int) = k * (n / M) + max 0 (k - (M - n % M)) := by
  have hr1 := Int.emod_nonneg n (show M ≠ 0 by omega)
  have hr2 := Int.emod_lt_of_pos n (show 0 < M by omega)
  have hq := Int.ediv_nonneg hn (show 0 ≤ M by omega)
  induction k with
  | zero => simp [tiGroupsL]; omega
  | succ k ih =>
    have h1 := ih (by omega)
    rw [tiGroupsL_succ, List.map_append, List.sum_append]
    have e : ((k + 1 : Nat) : Int) * (n / M) = k * (n / M) + n / M := by
      rw [Int.natCast_add, Int.add_mul]; simp
    rw [e]
    simp only [List.map_cons, List.map_nil, List.sum_cons, List.sum_nil, Nat.add_zero, Int.natCast_add]
    by_cases c : M - n % M ≤ k
    · rw [if_pos c, h1, Int.toNat_of_nonneg (by omega)]; omega
    · rw [if_neg c, h1, Int.toNat_of_nonneg (by omega)]; omega
theorem groups_all (n size : Int) (hn : 1 ≤ n) (hs : 1 ≤ size) : (outK (groupsOf n size) (groupsOf n size).length : Int) = n := by
  have hM := many_bd n size hn hs
  unfold outK
  rw [List.take_of_length_le (Nat.le_refl _)]
  unfold groupsOf manyOf
  rw [groups_sum n _ (by omega) hM.1 _ (by omega), Int.toNat_of_nonneg (by omega)]
  have hr1 := Int.emod_nonneg n (show (n + size - 1) / size ≠ 0 by omega)
  have := Int.mul_ediv_add_emod n ((n + size - 1) / size)
  omega
theorem groups_pos (n size : Int) (hn : 1 ≤ n) (hs : 1 ≤ size) (g : Nat) (hg : g < (groupsOf n size).length) : 1 ≤ (groupsOf n size)[g]?.getD 0 ∧ (groupsOf n size)[g]?.getD 0 ≤ n := by
  have hM := many_bd n size hn hs
  have hg' : g < ((n + size - 1) / size).toNat := by simpa [groupsOf, tiGroupsL_len, manyOf] using hg
  have hr1 := Int.emod_nonneg n (show (n + size - 1) / size ≠ 0 by omega)
  have hq1 : 1 ≤ n / ((n + size - 1) / size) := (Int.le_ediv_iff_mul_le (by omega)).2 (by omega)
  have hq2 := Int.ediv_le_self ((n + size - 1) / size) (show 0 ≤ n by omega)
  have hsum := Int.mul_ediv_add_emod n ((n + size - 1) / size)
  have hmul : n / ((n + size - 1) / size) ≤ (n + size - 1) / size * (n / ((n + size - 1) / size)) := by
    have := Int.mul_le_mul_of_nonneg_right hM.1 (show 0 ≤ n / ((n + size - 1) / size) by omega)
    omega
  unfold groupsOf manyOf tiGroupsL
  simp only [List.getElem?_map, List.getElem?_range hg', Option.map_some, Option.getD_some]
  split <;> omega
end Go.Proofs.YtpjaiihkgeabiaaDoor
