/- Plain: what the law of drifts asks of the values: drifts of beginnings, biases the other way round, slopes of a steeper series. Conditions: none. -/
import Derived.Test.YtppcmnolkbobfaaDrift
import Derived.Test.YtppcmnolkbobfaaStats2
set_option linter.unusedVariables false
set_option linter.unusedSimpArgs false
set_option maxRecDepth 100000
namespace Go.Proofs.Ytppcmnolkbobfaa
theorem firstIdx_yes {p : Nat → Bool} {n : Nat} (h : (firstIdx p n).2 = true) : (firstIdx p n).1 < n ∧ p (firstIdx p n).1 = true ∧ ∀ j, j < (firstIdx p n).1 → p j = false := by
  unfold firstIdx at *
  cases hf : (List.range n).find? p with
  | none => rw [hf] at h; cases h
  | some i =>
    have h1 := List.find?_range_eq_some.1 hf
    refine ⟨by simpa using h1.2.1, h1.1, fun j hj => ?_⟩
    have := h1.2.2 j hj
    simpa using this
theorem firstIdx_no {p : Nat → Bool} {n : Nat} (h : (firstIdx p n).2 = false) : ∀ j, j < n → p j = false := fun j hj => by
  unfold firstIdx at h
  cases hf : (List.range n).find? p with
  | none =>
    have := List.find?_eq_none.1 hf j (by simpa using hj)
    simpa using this
  | some i => rw [hf] at h; cases h
theorem dnSum_take {l : List Int} {m i : Nat} (hi : i < m) (d : Nat) : dnSum (l.take m) i d = dnSum l i d := by
  induction d with
  | zero => rfl
  | succ d ih =>
    simp only [dnSum]
    rw [ih, List.getElem?_take_of_lt (by omega)]
theorem dnMost_take {l : List Int} {m i : Nat} (hi : i < m) (d : Nat) : dnMost (l.take m) i d = dnMost l i d := by
  induction d with
  | zero => rfl
  | succ d ih => simp only [dnMost]; rw [ih, dnSum_take hi]
theorem drift_take {l : List Int} {m i : Nat} (hi : i < m) : driftV (l.take m) i = driftV l i := dnMost_take hi _
theorem most_take {l : List Int} {m : Nat} (k : Nat) (hk : k ≤ m) : mostTo (l.take m) k = mostTo l k := by
  induction k with
  | zero => rfl
  | succ k ih => simp only [mostTo]; rw [ih (by omega), drift_take (by omega)]
theorem most_ge (l : List Int) (k i : Nat) (hi : i < k) : driftV l i ≤ mostTo l k := by
  induction k with
  | zero => omega
  | succ k ih =>
    simp only [mostTo]
    by_cases e : i = k
    · subst e; omega
    · have := ih (by omega); omega
theorem most_le {l : List Int} {k : Nat} {c : Int} (hc : 0 ≤ c) (h : ∀ i, i < k → driftV l i ≤ c) : mostTo l k ≤ c := by
  induction k with
  | zero => exact hc
  | succ k ih =>
    simp only [mostTo]
    have h1 := ih (fun i hi => h i (by omega))
    have h2 := h k (by omega)
    omega
theorem ser_take {l : List Int} {m : Nat} (h : serB l = true) (h1 : 1 ≤ m) (h2 : m ≤ l.length) : serB (l.take m) = true := by
  obtain ⟨h3, h4⟩ := serB_of h
  unfold serB
  rw [Bool.and_eq_true]
  refine ⟨inB_iff.2 ?_, List.all_eq_true.2 fun x hx => inB_iff.2 (h4 x (List.mem_of_mem_take hx))⟩
  rw [List.length_take]; omega
theorem fd_yes {l : List Int} {lim : Int} (h : fdK l lim = true) : serB l = true ∧ (0 ≤ lim ∧ lim ≤ 1000000) ∧ ∃ f : Nat, fdV l lim = f ∧ f < l.length ∧ lim < driftV l f ∧ ∀ j, j < f → driftV l j ≤ lim := by
  cases hf : fdOn l lim
  · rw [(fd_off hf).2] at h; cases h
  · have hf' := hf
    simp only [fdOn, Bool.and_eq_true] at hf'
    have hR : fdR l lim = firstIdx (fdP l lim) l.length := by simp [fdR, hf]
    unfold fdK at h
    unfold fdV
    rw [hR] at h ⊢
    obtain ⟨h1, h2, h3⟩ := firstIdx_yes h
    exact ⟨hf'.1, inB_iff.1 hf'.2, _, rfl, h1, of_decide_eq_true h2, fun j hj => by have := of_decide_eq_false (h3 j hj); omega⟩
/-- There is a drift over the limit just if the greatest one is. -/
theorem fd_most {l : List Int} {lim : Int} (hs : serB l = true) (h0 : 0 ≤ lim) (h1 : lim ≤ 1000000) : fdK l lim = decide (lim < gdV l) := by
  have hg : gdV l = mostTo l l.length := by simp [gdV, hs]
  cases hk : fdK l lim
  · symm
    rw [decide_eq_false_iff_not, hg]
    have hf : fdOn l lim = true := by rw [fdOn, hs, inB_iff.2 ⟨h0, h1⟩]; rfl
    have hR : fdR l lim = firstIdx (fdP l lim) l.length := by simp [fdR, hf]
    unfold fdK at hk
    rw [hR] at hk
    have := most_le h0 (fun i hi => by have := of_decide_eq_false (firstIdx_no hk i hi); exact Int.not_lt.1 this)
    omega
  · symm
    rw [decide_eq_true_iff, hg]
    obtain ⟨_, _, f, _, hf, hd, _⟩ := fd_yes hk
    have := most_ge l l.length f hf
    omega
theorem gd_prefix {l : List Int} {lim : Int} {f : Nat} (hs : serB l = true) (hf : f < l.length) (hd : lim < driftV l f) : serB (l.take (f + 1)) = true ∧ lim < gdV (l.take (f + 1)) := by
  have h1 := ser_take hs (m := f + 1) (by omega) (by omega)
  refine ⟨h1, ?_⟩
  rw [gdV, if_pos h1, List.length_take, Nat.min_eq_left (by omega), most_take _ (Nat.le_refl _)]
  have := most_ge l (f + 1) f (by omega)
  omega
theorem gd_before {l : List Int} {lim : Int} {f : Nat} (hs : serB l = true) (h0 : 0 ≤ lim) (hf : f < l.length) (hf0 : 0 < f) (hb : ∀ j, j < f → driftV l j ≤ lim) : serB (l.take f) = true ∧ gdV (l.take f) ≤ lim := by
  have h1 := ser_take hs (m := f) (by omega) (by omega)
  refine ⟨h1, ?_⟩
  rw [gdV, if_pos h1, List.length_take, Nat.min_eq_left (by omega), most_take _ (Nat.le_refl _)]
  exact most_le h0 hb
theorem gcdV_dvd (a b : Int) : gcdV a b ∣ a ∧ gcdV a b ∣ b := by
  exact ⟨Int.gcd_dvd_left a b, Int.gcd_dvd_right a b⟩
theorem low_mul {a b : Int} (hb : 0 < b) : lowA a b * gcdV a b = a ∧ lowB a b * gcdV a b = b := ⟨Int.tdiv_mul_cancel (gcdV_dvd a b).1, Int.tdiv_mul_cancel (gcdV_dvd a b).2⟩
theorem low_neg (a b : Int) : lowA (-a) b = -lowA a b ∧ lowB (-a) b = lowB a b := by
  have e : gcdV (-a) b = gcdV a b := gcdV_same (.inr rfl) (.inl rfl)
  unfold lowA lowB
  rw [e, Int.neg_tdiv]
  exact ⟨rfl, rfl⟩
theorem lowB_pos {a b : Int} (hb : 0 < b) : 1 ≤ lowB a b := by
  have h1 := (low_mul (a := a) hb).2
  have h2 := gcdV_pos (a := a) hb
  rcases Int.lt_or_le 0 (lowB a b) with h | h
  · omega
  · have := Int.mul_nonpos_of_nonpos_of_nonneg h (show 0 ≤ gcdV a b by omega)
    omega
theorem low_cross {a b : Int} (hb : 0 < b) : lowA a b * b = lowB a b * a := by
  obtain ⟨h1, h2⟩ := low_mul (a := a) hb
  generalize hg : gcdV a b = g at *
  generalize lowA a b = x at *
  generalize lowB a b = y at *
  rw [← h1, ← h2]
  rw [← Int.mul_assoc, ← Int.mul_assoc, Int.mul_comm x y]
theorem gcdV_add {a b : Int} : gcdV (a + b) b = gcdV a b := by
  unfold gcdV
  congr 1
  have h1 : (a + b).natAbs.gcd b.natAbs = Int.gcd (a + b) b := rfl
  have h2 : a.natAbs.gcd b.natAbs = Int.gcd a b := rfl
  rw [h1, h2, Int.add_comm]
  exact Int.gcd_add_left_left_of_dvd a (Int.dvd_refl b)
theorem low_add {a b : Int} (hb : 0 < b) : lowA (a + b) b = lowA a b + lowB a b ∧ lowB (a + b) b = lowB a b := by
  obtain ⟨h1, h2⟩ := low_mul (a := a) hb
  obtain ⟨h3, h4⟩ := low_mul (a := a + b) hb
  have hg := gcdV_pos (a := a) hb
  rw [gcdV_add] at h3 h4
  refine ⟨Int.eq_of_mul_eq_mul_right (show gcdV a b ≠ 0 by omega) ?_, Int.eq_of_mul_eq_mul_right (show gcdV a b ≠ 0 by omega) (h4.trans h2.symm)⟩
  rw [h3, Int.add_mul, h1, h2]
/-- A series made steeper: k entries have been raised by their index. -/
def stp (l : List Int) (k : Nat) : List Int := (List.range l.length).map fun i => l[i]?.getD 0 + if i < k then (i : Int) else 0
theorem stp_len (l : List Int) (k : Nat) : (stp l k).length = l.length := by simp [stp]
theorem stp_zero (l : List Int) : stp l 0 = l := by
  apply List.ext_getElem (by simp [stp])
  intro i h1 h2
  simp [stp, h2]
theorem stp_get (l : List Int) (k i : Nat) (hi : i < l.length) : (stp l k)[i]?.getD 0 = l[i]?.getD 0 + if i < k then (i : Int) else 0 := by simp [stp, hi]
theorem stp_step (l : List Int) (k : Nat) (hk : k < l.length) : (stp l k).set k ((stp l k)[k]?.getD 0 + k) = stp l (k + 1) := by
  rw [stp_get l k k hk, if_neg (Nat.lt_irrefl k)]
  apply List.ext_getElem (by simp [stp])
  intro i h1 h2
  rw [List.getElem_set]
  simp only [stp, List.getElem_map, List.getElem_range]
  by_cases e : k = i
  · subst e; rw [if_pos rfl, if_pos (by omega)]; omega
  · rw [if_neg e]
    by_cases c : i < k
    · rw [if_pos c, if_pos (by omega)]
    · rw [if_neg c, if_neg (by omega)]
theorem stp_sum (l : List Int) (k : Nat) (hk : k ≤ l.length) : sumTo (stp l l.length) k = sumTo l k + plTo k := by
  induction k with
  | zero => simp [sumTo, plTo]
  | succ k ih =>
    rw [sumTo_succ _ k (by rw [stp_len]; omega), sumTo_succ l k (by omega), ih (by omega), stp_get _ _ _ (by omega), if_pos (by omega)]
    simp only [plTo]; omega
theorem stp_prod (l : List Int) (k : Nat) (hk : k ≤ l.length) : prTo (stp l l.length) k = prTo l k + sqTo k := by
  induction k with
  | zero => simp [prTo, sqTo]
  | succ k ih =>
    simp only [prTo, sqTo]
    rw [ih (by omega), stp_get _ _ _ (by omega), if_pos (by omega), Int.mul_add]
    omega
theorem stp_T (l : List Int) : slT (stp l l.length) = slT l + slU l ∧ slU (stp l l.length) = slU l := by
  unfold slT slU
  rw [stp_len, stp_sum l _ (Nat.le_refl _), stp_prod l _ (Nat.le_refl _), Int.mul_add, Int.mul_add]
  constructor
  · omega
  · rfl
theorem sl_steeper {l : List Int} (h : slOk l = true) (hb : ∀ i : Nat, i < l.length → l[i]?.getD 0 + i ≤ 100000) : slOk (stp l l.length) = true ∧ slA (stp l l.length) = slA l + slB l ∧ slB (stp l l.length) = slB l := by
  have h' := h
  simp only [slOk, Bool.and_eq_true, Bool.not_eq_true', decide_eq_false_iff_not] at h'
  obtain ⟨⟨h1, h60⟩, h2⟩ := serB_of h'.1
  have hk : slOk (stp l l.length) = true := by
    simp only [slOk, Bool.and_eq_true, Bool.not_eq_true', decide_eq_false_iff_not, stp_len]
    refine ⟨?_, h'.2⟩
    unfold serB
    rw [Bool.and_eq_true, stp_len]
    refine ⟨inB_iff.2 ⟨by omega, by omega⟩, List.all_eq_true.2 fun x hx => ?_⟩
    simp only [stp, List.mem_map, List.mem_range] at hx
    obtain ⟨i, hi, rfl⟩ := hx
    have h3 := h2 _ (getD_mem 0 l i hi)
    have h4 := hb i hi
    rw [if_pos hi]
    exact inB_iff.2 ⟨by omega, by omega⟩
  have hU := (sq_pos l.length (by omega) (by omega)).1
  have hU' : 0 < slU l := hU
  refine ⟨hk, ?_, ?_⟩
  · rw [(sl_yes hk).1, (sl_yes h).1, (sl_yes h).2, (stp_T l).1, (stp_T l).2]
    exact (low_add hU').1
  · rw [(sl_yes hk).2, (sl_yes h).2, (stp_T l).1, (stp_T l).2]
    exact (low_add hU').2
theorem bias_back {l r : List Int} (h : biasOk l r = true) : biasOk r l = true ∧ biasA r l = -biasA l r ∧ biasB r l = biasB l r ∧ 1 ≤ biasB l r ∧ biasA l r * l.length * r.length = biasB l r * (sumTo l l.length * r.length - sumTo r r.length * l.length) := by
  have h' := h
  simp only [biasOk, Bool.and_eq_true] at h'
  have hk : biasOk r l = true := by simp [biasOk, h'.1, h'.2]
  have hT : biasT r l = -biasT l r := by unfold biasT; omega
  have hU : biasU r l = biasU l r := by unfold biasU; exact Int.mul_comm _ _
  have h1 := (serB_of h'.1).1
  have h2 := (serB_of h'.2).1
  have hUp : 0 < biasU l r := Int.mul_pos (by omega) (by omega)
  have ha := low_neg (biasT l r) (biasU l r)
  refine ⟨hk, ?_, ?_, ?_, ?_⟩
  · rw [(bias_yes hk).1, (bias_yes h).1, hT, hU]; exact ha.1
  · rw [(bias_yes hk).2, (bias_yes h).2, hT, hU]; exact ha.2
  · rw [(bias_yes h).2]; exact lowB_pos hUp
  · rw [(bias_yes h).1, (bias_yes h).2, Int.mul_assoc]
    exact low_cross hUp
end Go.Proofs.Ytppcmnolkbobfaa
