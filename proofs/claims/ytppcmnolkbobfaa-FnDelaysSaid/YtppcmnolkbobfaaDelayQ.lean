/- Plain facts for the law FnDelays: a delay moves only what is behind it; the greatest gap just fits; a slip is what is beyond the allowance. Conditions: none. -/
import Derived.Test.YtppcmnolkbobfaaGap
set_option linter.unusedVariables false
set_option linter.unusedSimpArgs false
set_option maxRecDepth 100000
namespace Go.Proofs.Ytppcmnolkbobfaa
open Go.RowKit
section
variable (l : List (Int × Int)) (a c gap i delay : Int)
theorem innT_shift (k0 : Nat) (t0 x : Int) (j : Nat) : innT l gap i delay k0 (t0 + x) j = innT l gap i delay k0 t0 j + x := by
  induction j with
  | zero => simp [innT]
  | succ j ih => rw [innT, innT, ih]; unfold nxtT; split <;> omega
theorem innT_delay (k0 : Nat) (t0 : Int) (j : Nat) : innT l gap i delay k0 t0 j = innT l gap 0 0 k0 t0 j + (if (k0 : Int) ≤ i ∧ i < k0 + j then delay else 0) := by
  induction j with
  | zero => simp [innT]; omega
  | succ j ih =>
    rw [innT, innT, ih]
    unfold nxtT
    have hz : (if ((k0 + j : Nat) : Int) = 0 then (0 : Int) else 0) = 0 := by split <;> rfl
    rw [hz]
    by_cases h1 : (k0 : Int) ≤ i ∧ i < k0 + j
    · rw [if_pos h1, if_neg (by omega), if_pos (by omega)]; omega
    · by_cases h2 : ((k0 + j : Nat) : Int) = i
      · rw [if_neg h1, if_pos h2, if_pos (by omega)]; omega
      · rw [if_neg h1, if_neg h2, if_neg (by omega)]; omega
theorem outT_delay (h0 : 0 ≤ i) (gs : List Int) (g : Nat) (h : g ≤ gs.length) : outT l a c gap i delay gs g = outT l a c gap 0 0 gs g + (if i < outK gs g then delay else 0) := by
  induction g with
  | zero => simp [outT, outK]; omega
  | succ g ih =>
    rw [outT, outT, ih (by omega), outK_succ gs g (by omega)]
    have e1 : outT l a c gap 0 0 gs g + (if i < outK gs g then delay else 0) + c = outT l a c gap 0 0 gs g + c + (if i < outK gs g then delay else 0) := by omega
    rw [e1, innT_shift, innT_delay]
    generalize outT l a c gap 0 0 gs g + c = t0
    by_cases h1 : i < outK gs g
    · rw [if_pos h1, if_neg (by omega), if_pos (by omega)]; omega
    · by_cases h2 : i < outK gs g + (gs[g]?.getD 0).toNat
      · rw [if_neg h1, if_pos (by omega), if_pos (by omega)]; omega
      · rw [if_neg h1, if_neg (by omega), if_neg (by omega)]; omega
theorem innS_get (k0 : Nat) (t0 : Int) (j k : Nat) (hk : k < j) : (innS l gap i delay k0 t0 j)[k]?.getD 0 = innT l gap i delay k0 t0 k := by simp [innS, hk]
theorem outS_delay (h0 : 0 ≤ i) (gs : List Int) (g : Nat) (h : g ≤ gs.length) (k : Nat) (hk : k < outK gs g) : (outS l a c gap i delay gs g)[k]?.getD 0 = (outS l a c gap 0 0 gs g)[k]?.getD 0 + (if i < k then delay else 0) := by
  induction g with
  | zero => simp [outK] at hk
  | succ g ih =>
    rw [outK_succ gs g (by omega)] at hk
    have l1 := outS_len l a c gap i delay gs g (by omega)
    have l2 := outS_len l a c gap 0 0 gs g (by omega)
    rw [outS, outS]
    by_cases hlt : k < outK gs g
    · rw [List.getElem?_append_left (by omega), List.getElem?_append_left (by omega)]
      exact ih (by omega) hlt
    · rw [List.getElem?_append_right (by omega), List.getElem?_append_right (by omega), l1, l2, innS_get _ _ _ _ _ _ _ _ (by omega), innS_get _ _ _ _ _ _ _ _ (by omega)]
      obtain ⟨j, rfl⟩ : ∃ j, k = outK gs g + j := ⟨k - outK gs g, by omega⟩
      rw [Nat.add_sub_cancel_left, outT_delay l a c gap i delay h0 gs g (by omega)]
      have e1 : outT l a c gap 0 0 gs g + (if i < outK gs g then delay else 0) + c = outT l a c gap 0 0 gs g + c + (if i < outK gs g then delay else 0) := by omega
      rw [e1, innT_shift, innT_delay]
      generalize innT l gap 0 0 (outK gs g) (outT l a c gap 0 0 gs g + c) j = t0
      by_cases h1 : i < outK gs g
      · rw [if_pos h1, if_neg (by omega), if_pos (by omega)]; omega
      · by_cases h2 : i < outK gs g + j
        · rw [if_neg h1, if_pos (by omega), if_pos (by omega)]; omega
        · rw [if_neg h1, if_neg (by omega), if_neg (by omega)]; omega
end
theorem delay_facts {l : List (Int × Int)} {a b c gap i delay : Int} (h : delayOk l a b c gap i delay = true) :
    timedB l a b c gap = true ∧ (0 ≤ i ∧ 0 ≤ delay ∧ delay ≤ 3600) ∧ startsV l a b c gap = runS l a b c gap 0 0 ∧ delayedV l a b c gap i delay = runS l a b c gap i delay ∧ (runS l a b c gap 0 0).length = l.length ∧ (runS l a b c gap i delay).length = l.length ∧
    (∀ k, k < l.length → (runS l a b c gap i delay)[k]?.getD 0 = (runS l a b c gap 0 0)[k]?.getD 0 + (if i < k then delay else 0)) ∧ ∀ x ∈ runS l a b c gap 0 0, 0 ≤ x ∧ x ≤ 1000000 := by
  have h' := h
  simp only [delayOk, Bool.and_eq_true] at h'
  obtain ⟨⟨h1, h2⟩, h3⟩ := h'
  have h2 := inB_iff.1 h2
  have h3 := inB_iff.1 h3
  obtain ⟨hs, hd⟩ := timedB_of h1
  have hb : 1 ≤ b := by simp only [dayB, Bool.and_eq_true] at hd; have := inB_iff.1 hd.1.1.2; omega
  have hsl := slotsB_of hs
  have hg := groups_all l.length b (by omega) hb
  refine ⟨h1, ⟨h2.1, h3.1, h3.2⟩, by simp [startsV, h1], by simp [delayedV, h], runS_len hs hb, runS_len hs hb, fun k hk => ?_, runS_bd h1 (by omega) (by omega)⟩
  unfold runS
  exact outS_delay l a c gap i delay h2.1 _ _ (Nat.le_refl _) k (by omega)
theorem gap_facts {l : List (Int × Int)} {a b c gap e : Int} (h : gapB l a b c gap e = true) :
    (0 ≤ gapV l a b c gap e ∧ gapV l a b c gap e ≤ 300) ∧ timedB l a b c (gapV l a b c gap e) = true ∧ endV l a b c (gapV l a b c gap e) ≤ e ∧
    (gapV l a b c gap e < 300 → timedB l a b c (gapV l a b c gap e + 1) = true ∧ e < endV l a b c (gapV l a b c gap e + 1)) := by
  have h' := h
  simp only [gapB, Bool.and_eq_true, decide_eq_true_eq] at h'
  obtain ⟨h1, h2⟩ := h'
  have hv := (gap_yes h1 h2).1
  simp only [gapOk, Bool.and_eq_true] at h1
  obtain ⟨h1, _⟩ := h1
  obtain ⟨hs, hd⟩ := timedB_of h1
  have hb : 1 ≤ b := by simp only [dayB, Bool.and_eq_true] at hd; have := inB_iff.1 hd.1.1.2; omega
  have hsl := slotsB_of hs
  have hn : 1 ≤ l.length := by omega
  rw [hv]
  have hq0 : 0 ≤ (e - runT l a b c 0 0 0) / (l.length : Int) := Int.ediv_nonneg (by omega) (by omega)
  have hq1 : (e - runT l a b c 0 0 0) / (l.length : Int) * l.length ≤ e - runT l a b c 0 0 0 := Int.ediv_mul_le _ (by omega)
  have hq2 : e - runT l a b c 0 0 0 < ((e - runT l a b c 0 0 0) / (l.length : Int) + 1) * l.length := Int.lt_ediv_add_one_mul_self _ (by omega)
  generalize hQ : (e - runT l a b c 0 0 0) / (l.length : Int) = Q at *
  have t1 := timedB_gap h1 (g := min 300 Q) (by omega) (by omega)
  refine ⟨by omega, t1, ?_, fun h3 => ?_⟩
  · rw [endV, if_pos t1, runT_gap l a b c _ hb hn]
    have : min 300 Q * (l.length : Int) ≤ Q * l.length := Int.mul_le_mul_of_nonneg_right (by omega) (by omega)
    rw [Int.mul_comm]; omega
  · have hm : min 300 Q = Q := by omega
    rw [hm] at h3 ⊢
    have t2 := timedB_gap h1 (g := Q + 1) (by omega) (by omega)
    refine ⟨t2, ?_⟩
    rw [endV, if_pos t2, runT_gap l a b c _ hb hn, Int.mul_comm]
    omega
theorem slip_facts {m x a : Int} (h : slipOk m x a = true) : (1 ≤ m ∧ m ≤ 600 ∧ 1 ≤ x ∧ x ≤ 600 ∧ 0 ≤ a ∧ a ≤ 60) ∧ 0 ≤ slipV m x a ∧ slipV m x a ≤ 1000 ∧ (0 < slipV m x a → absI (m - x) = slipV m x a + a) ∧ (slipV m x a = 0 → absI (m - x) ≤ a) ∧ -1000 ≤ absI (m - x) ∧ absI (m - x) ≤ 1000 := by
  simp only [slipOk, Bool.and_eq_true] at h
  obtain ⟨⟨h1, h2⟩, h3⟩ := h
  have h1 := inB_iff.1 h1
  have h2 := inB_iff.1 h2
  have h3 := inB_iff.1 h3
  unfold slipV absI
  omega
end Go.Proofs.Ytppcmnolkbobfaa
