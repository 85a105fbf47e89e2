/- Plain facts for the law FnTimes: sizes of groups, who is on the ice, starting times and warm-ups. Conditions: none. -/
import Derived.Test.YtogglhgagblihaaGap
import Derived.Test.YtogglhgagblihaaStatsP
set_option linter.unusedVariables false
set_option linter.unusedSimpArgs false
set_option maxRecDepth 100000
namespace Go.Proofs.Ytogglhgagblihaa
open Go.RowKit
theorem firstIdx_at {p : Nat → Bool} {n : Nat} (h : (firstIdx p n).2 = true) : (firstIdx p n).1 < n ∧ p (firstIdx p n).1 = true := by
  unfold firstIdx at *
  cases hf : (List.range n).find? p with
  | none => rw [hf] at h; cases h
  | some i =>
    have h1 := List.find?_range_eq_some.1 hf
    exact ⟨by simpa using h1.2.1, h1.1⟩
/-- Who is on the ice. -/
theorem ice_facts {l : List (Int × Int)} {a b c gap t : Int} (h : iceB l a b c gap t = true) :
    ∃ j : Nat, iceV l a b c gap t = j ∧ j < l.length ∧ timedB l a b c gap = true ∧ startsV l a b c gap = runS l a b c gap 0 0 ∧ (runS l a b c gap 0 0).length = l.length ∧
      (runS l a b c gap 0 0)[j]?.getD 0 ≤ t ∧ t < (runS l a b c gap 0 0)[j]?.getD 0 + (l[j]?.getD (0, 0)).2 ∧ 0 ≤ (runS l a b c gap 0 0)[j]?.getD 0 ∧ (runS l a b c gap 0 0)[j]?.getD 0 ≤ 1000000 ∧ 0 ≤ (l[j]?.getD (0, 0)).2 ∧ (l[j]?.getD (0, 0)).2 ≤ 300 := by
  unfold iceB iceR at h
  cases hk : iceOk l a b c gap t with
  | false => rw [hk] at h; simp at h
  | true =>
    rw [hk, if_pos rfl] at h
    have hf := firstIdx_at h
    have ht : timedB l a b c gap = true := by simp only [iceOk, Bool.and_eq_true] at hk; exact hk.1
    obtain ⟨hs, hd⟩ := timedB_of ht
    have hb : 1 ≤ b := by simp only [dayB, Bool.and_eq_true] at hd; have := inB_iff.1 hd.1.1.2; omega
    have hl := runS_len (l := l) (a := a) (b := b) (c := c) (gap := gap) (i := 0) (delay := 0) hs hb
    have hbd := runS_bd ht (i := 0) (delay := 0) (by omega) (by omega) _ (getD_mem 0 (runS l a b c gap 0 0) _ (by rw [hl]; exact hf.1))
    have hm := slotsB_music hs _ hf.1
    have h2 := hf.2
    simp only [iceAt, Bool.and_eq_true, decide_eq_true_eq] at h2
    exact ⟨_, by simp [iceV, iceR, hk], hf.1, ht, by simp [startsV, ht], hl, h2.1, h2.2, hbd.1, hbd.2, by omega, hm.2⟩
/-- Sizes of groups. -/
theorem group_facts {n size : Int} (h : groupsOk n size = true) :
    groupsV n size = groupsOf n size ∧ ((groupsOf n size).length : Int) = (n + size - 1) / size ∧ (1 ≤ n ∧ n ≤ 40 ∧ 1 ≤ size ∧ size ≤ 8) ∧ 1 ≤ (groupsOf n size).length ∧ (groupsOf n size).length ≤ 40 ∧
      sumTo (groupsOf n size) (groupsOf n size).length = n ∧
      (∀ k, k < (groupsOf n size).length → 1 ≤ (groupsOf n size)[k]?.getD 0 ∧ (groupsOf n size)[k]?.getD 0 ≤ size ∧ (groupsOf n size)[k]?.getD 0 ≤ (groupsOf n size)[0]?.getD 0 + 1) ∧
      ∀ k, k + 1 < (groupsOf n size).length → (groupsOf n size)[k]?.getD 0 ≤ (groupsOf n size)[k + 1]?.getD 0 := by
  have h' := h
  simp only [groupsOk, Bool.and_eq_true] at h'
  have h1 := inB_iff.1 h'.1
  have h2 := inB_iff.1 h'.2
  have hM := many_bd n size h1.1 h2.1
  have hlen : (groupsOf n size).length = ((n + size - 1) / size).toNat := by simp [groupsOf, tiGroupsL_len, manyOf]
  have hpos := groups_pos n size h1.1 h2.1
  have hall := groups_all n size h1.1 h2.1
  have hsum : ∀ k, k ≤ (groupsOf n size).length → sumTo (groupsOf n size) k = (outK (groupsOf n size) k : Int) := by
    intro k hk
    induction k with
    | zero => simp [sumTo, outK]
    | succ k ih =>
      have hp := hpos k (by omega)
      rw [sumTo_succ _ _ (by omega), outK_succ _ _ (by omega), ih (by omega)]
      omega
  have hget : ∀ k, k < (groupsOf n size).length → (groupsOf n size)[k]?.getD 0 = n / ((n + size - 1) / size) + if (n + size - 1) / size - n % ((n + size - 1) / size) ≤ (k : Int) then 1 else 0 := by
    intro k hk
    rw [hlen] at hk
    unfold groupsOf manyOf tiGroupsL
    simp only [List.getElem?_map, List.getElem?_range hk, Option.map_some, Option.getD_some]
  have hr1 := Int.emod_nonneg n (show (n + size - 1) / size ≠ 0 by omega)
  have hr2 := Int.emod_lt_of_pos n (show 0 < (n + size - 1) / size by omega)
  have hdm := Int.mul_ediv_add_emod n ((n + size - 1) / size)
  have hup : n ≤ (n + size - 1) / size * size := by
    have := Int.lt_ediv_add_one_mul_self (n + size - 1) (show 0 < size by omega)
    rw [Int.add_mul] at this
    omega
  have hmul : (n + size - 1) / size * (n / ((n + size - 1) / size)) ≤ (n + size - 1) / size * size := by omega
  have hq : n / ((n + size - 1) / size) ≤ size := Int.le_of_mul_le_mul_left hmul (by omega)
  have hq1 : 0 < n % ((n + size - 1) / size) → n / ((n + size - 1) / size) + 1 ≤ size := by
    intro hr
    have h3 : (n + size - 1) / size * (n / ((n + size - 1) / size)) < (n + size - 1) / size * size := by omega
    have := Int.lt_of_mul_lt_mul_left h3 (by omega)
    omega
  have hl1 : 1 ≤ (groupsOf n size).length := by omega
  refine ⟨by simp [groupsV, h], by omega, ⟨h1.1, h1.2, h2.1, h2.2⟩, hl1, by omega, ?_, fun k hk => ?_, fun k hk => ?_⟩
  · rw [hsum _ (Nat.le_refl _)]; exact hall
  · have hp := hpos k hk
    refine ⟨hp.1, ?_, ?_⟩
    · rw [hget k hk]
      split
      · rename_i hc
        have : 0 < n % ((n + size - 1) / size) := by omega
        exact hq1 this
      · omega
    · rw [hget k hk, hget 0 (by omega)]
      split <;> split <;> omega
  · rw [hget k (by omega), hget (k + 1) hk]
    split <;> split <;> omega
/-- The music of the first k slots. -/
def musTo (l : List (Int × Int)) : Nat → Int
  | 0 => 0
  | k + 1 => musTo l k + (l[k]?.getD (0, 0)).2
section
variable {l : List (Int × Int)} {a c gap : Int} {gs : List Int}
theorem innT_sum (k0 : Nat) (t0 : Int) (j : Nat) : innT l gap 0 0 k0 t0 j = t0 + (musTo l (k0 + j) - musTo l k0) + j * gap := by
  induction j with
  | zero => simp [innT]
  | succ j ih =>
    have e : ((j + 1 : Nat) : Int) * gap = j * gap + gap := by rw [Int.natCast_add, Int.add_mul]; simp
    rw [innT, ih, e, show k0 + (j + 1) = (k0 + j) + 1 by omega, musTo]
    unfold nxtT
    split <;> omega
theorem outT_sum (g : Nat) (h : g ≤ gs.length) : outT l a c gap 0 0 gs g = a + musTo l (outK gs g) + outK gs g * gap + g * c := by
  induction g with
  | zero => simp [outT, outK, musTo]
  | succ g ih =>
    have e : ((g + 1 : Nat) : Int) * c = g * c + c := by rw [Int.natCast_add, Int.add_mul]; simp
    rw [outT, innT_sum, ih (by omega), outK_succ gs g (by omega), e, Int.natCast_add, Int.add_mul]
    omega
theorem innT_get (k0 : Nat) (t0 : Int) (j k : Nat) (hk : k < j) : (innS l gap 0 0 k0 t0 j)[k]?.getD 0 = innT l gap 0 0 k0 t0 k := by simp [innS, hk]
/-- The first start of each group. -/
theorem outS_first (hp : ∀ k, k < gs.length → 1 ≤ gs[k]?.getD 0) (g : Nat) (h : g ≤ gs.length) (j : Nat) (hj : j < g) : (outS l a c gap 0 0 gs g)[outK gs j]?.getD 0 = outT l a c gap 0 0 gs j + c := by
  induction g with
  | zero => omega
  | succ g ih =>
    have hlen := outS_len l a c gap 0 0 gs g (by omega)
    have hg := hp g (by omega)
    rw [outS]
    by_cases hlt : j < g
    · have h1 := outK_mono gs (j + 1) g (by omega)
      rw [outK_succ gs j (by omega)] at h1
      have h2 := hp j (by omega)
      rw [List.getElem?_append_left (by omega)]
      exact ih (by omega) hlt
    · obtain rfl : j = g := by omega
      rw [List.getElem?_append_right (by omega), hlen, Nat.sub_self, innT_get _ _ _ _ (by omega), innT]
/-- The end of a group is the distance behind its last start. -/
theorem outS_last (hp : ∀ k, k < gs.length → 1 ≤ gs[k]?.getD 0) (g : Nat) (h : g + 1 ≤ gs.length) : outT l a c gap 0 0 gs (g + 1) = (outS l a c gap 0 0 gs (g + 1))[outK gs (g + 1) - 1]?.getD 0 + ((l[outK gs (g + 1) - 1]?.getD (0, 0)).2 + gap) := by
  have hlen := outS_len l a c gap 0 0 gs g (by omega)
  have hg := hp g (by omega)
  rw [outS, outT, outK_succ gs g (by omega)]
  obtain ⟨x, hx⟩ : ∃ x, (gs[g]?.getD 0).toNat = x + 1 := ⟨(gs[g]?.getD 0).toNat - 1, by omega⟩
  rw [hx, List.getElem?_append_right (by omega), hlen, show outK gs g + (x + 1) - 1 - outK gs g = x by omega, innT_get _ _ _ _ (by omega), innT, show outK gs g + (x + 1) - 1 = outK gs g + x by omega]
  unfold nxtT
  split <;> omega
theorem outS_step (hc : 0 ≤ c) (hp : ∀ k, k < gs.length → 1 ≤ gs[k]?.getD 0) (g : Nat) (h : g ≤ gs.length) (k : Nat) (hk : k + 1 < outK gs g) :
    (outS l a c gap 0 0 gs g)[k]?.getD 0 + ((l[k]?.getD (0, 0)).2 + gap) ≤ (outS l a c gap 0 0 gs g)[k + 1]?.getD 0 := by
  induction g with
  | zero => simp [outK] at hk
  | succ g ih =>
    have hlen := outS_len l a c gap 0 0 gs g (by omega)
    rw [outK_succ gs g (by omega)] at hk
    rw [outS]
    by_cases h1 : k + 1 < outK gs g
    · rw [List.getElem?_append_left (by omega), List.getElem?_append_left (by omega)]
      exact ih (by omega) h1
    · rw [List.getElem?_append_right (show (outS l a c gap 0 0 gs g).length ≤ k + 1 by omega), hlen, innT_get _ _ _ _ (by omega)]
      by_cases h2 : k < outK gs g
      · have h3 : k + 1 = outK gs g := by omega
        rw [List.getElem?_append_left (by omega), show k + 1 - outK gs g = 0 by omega, innT]
        cases g with
        | zero => simp [outK] at h2
        | succ g =>
          have h4 := outS_last (l := l) (a := a) (c := c) (gap := gap) hp g (by omega)
          rw [← h3, Nat.add_sub_cancel] at h4
          omega
      · obtain ⟨j, rfl⟩ : ∃ j, k = outK gs g + j := ⟨k - outK gs g, by omega⟩
        rw [List.getElem?_append_right (by omega), hlen, innT_get _ _ _ _ (by omega), show outK gs g + j - outK gs g = j by omega, show outK gs g + j + 1 - outK gs g = j + 1 by omega, innT]
        unfold nxtT
        split <;> omega
end
theorem musTo_bd {l : List (Int × Int)} (h : ∀ k, k < l.length → 0 ≤ (l[k]?.getD (0, 0)).2 ∧ (l[k]?.getD (0, 0)).2 ≤ 300) (k : Nat) (hk : k ≤ l.length) : 0 ≤ musTo l k ∧ musTo l k ≤ 300 * k := by
  induction k with
  | zero => simp [musTo]
  | succ k ih =>
    have h1 := ih (by omega)
    have h2 := h k (by omega)
    rw [musTo]
    omega
/-- The times of a day. -/
theorem day_facts {l : List (Int × Int)} {a b c gap : Int} (h : timedB l a b c gap = true) :
    ∃ G S W : List Int, groupsOf l.length b = G ∧ startsV l a b c gap = S ∧ warmsV l a b c gap = W ∧ groupsOk l.length b = true ∧ S.length = l.length ∧ W.length = G.length ∧ W[0]?.getD 0 = a ∧ (1 ≤ l.length ∧ l.length ≤ 40) ∧ (1 ≤ G.length ∧ G.length ≤ 40) ∧
      (∀ j, j < G.length → outK G j < l.length ∧ outK G (j + 1) = outK G j + (G[j]?.getD 0).toNat ∧ 1 ≤ G[j]?.getD 0 ∧ G[j]?.getD 0 ≤ 40 ∧ S[outK G j]?.getD 0 = W[j]?.getD 0 + c ∧ 0 ≤ W[j]?.getD 0 ∧ W[j]?.getD 0 ≤ 1000000) ∧
      (∀ k, k + 1 < l.length → S[k]?.getD 0 + ((l[k]?.getD (0, 0)).2 + gap) ≤ S[k + 1]?.getD 0) ∧ (∀ k, k < l.length → 0 ≤ S[k]?.getD 0 ∧ S[k]?.getD 0 ≤ 1000000) ∧
      endV l a b c gap = a + musTo l l.length + l.length * gap + G.length * c ∧ (∀ k, k ≤ l.length → 0 ≤ musTo l k ∧ musTo l k ≤ 12000) ∧ (∀ k, k < l.length → 0 ≤ (l[k]?.getD (0, 0)).2 ∧ (l[k]?.getD (0, 0)).2 ≤ 300) ∧
      (0 ≤ a ∧ a ≤ 86400) ∧ (1 ≤ b ∧ b ≤ 8) ∧ (0 ≤ c ∧ c ≤ 600) ∧ (0 ≤ gap ∧ gap ≤ 300) := by
  obtain ⟨hs, hd⟩ := timedB_of h
  have hd' := hd
  simp only [dayB, Bool.and_eq_true] at hd'
  obtain ⟨⟨⟨ka, kb⟩, kc⟩, kg⟩ := hd'
  have ka := inB_iff.1 ka
  have kb := inB_iff.1 kb
  have kc := inB_iff.1 kc
  have kg := inB_iff.1 kg
  have hsl := slotsB_of hs
  have hok : groupsOk l.length b = true := by
    simp only [groupsOk, Bool.and_eq_true]
    exact ⟨inB_iff.2 (by omega), inB_iff.2 (by omega)⟩
  have hgf := group_facts hok
  have hp : ∀ k, k < (groupsOf l.length b).length → 1 ≤ (groupsOf l.length b)[k]?.getD 0 := fun k hk => (hgf.2.2.2.2.2.2.1 k hk).1
  have hall := groups_all l.length b (by omega) kb.1
  have hmus := fun k hk => slotsB_music hs k hk
  have hm' : ∀ k, k < l.length → 0 ≤ (l[k]?.getD (0, 0)).2 ∧ (l[k]?.getD (0, 0)).2 ≤ 300 := fun k hk => by have := hmus k hk; omega
  have hSl := runS_len (l := l) (a := a) (b := b) (c := c) (gap := gap) (i := 0) (delay := 0) hs kb.1
  have hSb := runS_bd h (i := 0) (delay := 0) (by omega) (by omega)
  have htm : Timed l gap 0 := ⟨hm', kg.1, kg.2, by omega, by omega⟩
  refine ⟨groupsOf l.length b, runS l a b c gap 0 0, runW l a b c gap 0 0, rfl, by simp [startsV, h], by simp [warmsV, h], hok, hSl, ?_, ?_, ⟨hsl.2.1, hsl.2.2⟩, ⟨hgf.2.2.2.1, hgf.2.2.2.2.1⟩, fun j hj => ?_, fun k hk => ?_, fun k hk => ?_, ?_, fun k hk => ?_, hm', ka, kb, kc, kg⟩
  · unfold runW; rw [outW_len]
  · unfold runW outW; simp [show 0 < (groupsOf l.length b).length by omega, outT]
  · have h1 := outK_mono (groupsOf l.length b) (j + 1) (groupsOf l.length b).length (by omega)
    have h2 := outK_succ (groupsOf l.length b) j hj
    have h3 := hp j hj
    have h4 := (hgf.2.2.2.2.2.2.1 j hj).2.1
    have hw : (runW l a b c gap 0 0)[j]?.getD 0 = outT l a c gap 0 0 (groupsOf l.length b) j := by unfold runW outW; simp [hj]
    have hbd := outT_bd (l := l) (start := a) (warm := c) (gap := gap) (i := 0) (delay := 0) (gs := groupsOf l.length b) (g := j) htm kc.1 kc.2 ka.1 ka.2 (by omega) (by omega)
    refine ⟨by omega, h2, h3, by omega, ?_, by rw [hw]; exact hbd.1, by rw [hw]; omega⟩
    rw [hw]
    exact outS_first hp _ (Nat.le_refl _) j hj
  · exact outS_step kc.1 hp _ (Nat.le_refl _) k (by omega)
  · exact hSb _ (getD_mem 0 _ k (by rw [hSl]; exact hk))
  · rw [endV, if_pos h]
    unfold runT
    rw [outT_sum _ (Nat.le_refl _)]
    have e : outK (groupsOf l.length b) (groupsOf l.length b).length = l.length := by omega
    rw [e]
  · have := musTo_bd hm' k hk
    omega
end Go.Proofs.Ytogglhgagblihaa
