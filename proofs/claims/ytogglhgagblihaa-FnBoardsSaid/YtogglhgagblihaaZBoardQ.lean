/- Plain facts for the law FnBoards: boards fall, those still to come are the others, leaders' times rise. Conditions: none. -/
import Derived.Test.YtogglhgagblihaaZLeadP
import Derived.Test.YtogglhgagblihaaZStill
import Derived.Test.YtogglhgagblihaaZTimesQ
set_option linter.unusedVariables false
set_option linter.unusedSimpArgs false
set_option maxRecDepth 100000
namespace Go.Proofs.Ytogglhgagblihaa
open Go.RowKit
/-- The time at which the score of slot i is known. -/
def scT (l : List (Int × Int)) (a b c gap : Int) (i : Nat) : Int := (runS l a b c gap 0 0)[i]?.getD 0 + (l[i]?.getD (0, 0)).2 + gap
theorem scT_bd {l : List (Int × Int)} {a b c gap : Int} (h : timedB l a b c gap = true) (i : Nat) (hi : i < l.length) : 0 ≤ scT l a b c gap i ∧ scT l a b c gap i ≤ 200000 := by
  obtain ⟨G, S, W, hG, hS, hW, hok, hSl, hWl, hW0, hn, hgl, hgs, hst, hSb, hend, hmus, hm, ha, hb, hc, hg⟩ := day_facts h
  have hS' : runS l a b c gap 0 0 = S := by rw [← hS]; simp [startsV, h]
  have hlast : (S[l.length - 1]?.getD 0) + ((l[l.length - 1]?.getD (0, 0)).2 + gap) = endV l a b c gap := by
    have hp : ∀ k, k < G.length → 1 ≤ G[k]?.getD 0 := fun k hk => (hgs k hk).2.2.1
    have hall := groups_all l.length b (by omega) hb.1
    obtain ⟨g, hgg⟩ : ∃ g, G.length = g + 1 := ⟨G.length - 1, by omega⟩
    have h1 := outS_last (l := l) (a := a) (c := c) (gap := gap) hp g (by omega)
    rw [hG] at hall
    have hk : outK G (g + 1) = l.length := by rw [← hgg]; omega
    rw [hk] at h1
    rw [endV, if_pos h]
    unfold runT
    rw [hG, hgg, h1, ← hS']
    unfold runS
    rw [hG, hgg]
  have hall : ∀ d : Nat, d < l.length → (S[l.length - 1 - d]?.getD 0) + ((l[l.length - 1 - d]?.getD (0, 0)).2 + gap) ≤ endV l a b c gap := by
    intro d
    induction d with
    | zero => intro _; rw [Nat.sub_zero, hlast]; omega
    | succ d ih =>
      intro hd
      have h1 := ih (by omega)
      have h2 := hst (l.length - 1 - (d + 1)) (by omega)
      rw [show l.length - 1 - (d + 1) + 1 = l.length - 1 - d by omega] at h2
      have h3 := hm (l.length - 1 - d) (by omega)
      omega
  have h4 := hall (l.length - 1 - i) (by omega)
  rw [show l.length - 1 - (l.length - 1 - i) = i by omega] at h4
  have h5 := hSb i hi
  have h6 := hm i hi
  have h7 := hmus l.length (Nat.le_refl _)
  have h8 := mul_bd (a := (l.length : Int)) (b := gap) (A := 40) (B := 300) (by omega) (by omega) (by omega) (by omega)
  have h9 := mul_bd (a := (G.length : Int)) (b := c) (A := 40) (B := 600) (by omega) (by omega) (by omega) (by omega)
  unfold scT
  rw [hS']
  omega
theorem kn_scT {l : List (Int × Int)} {a b c gap t : Int} {i : Nat} : knAt l (runS l a b c gap 0 0) gap t i = decide (scT l a b c gap i ≤ t) := rfl
theorem bd_pos {l : List (Int × Int)} {a b c gap t : Int} {S : List Int} {i : Nat} (hi : i < l.length) (h : scT l a b c gap i ≤ t) : 0 < (bdT l a b c gap S t).length := by
  unfold bdT
  rw [stS_len]
  have h1 : hasB (pickI (knAt l (runS l a b c gap 0 0) gap t) l.length) i = true := by
    rw [pickI_has hi, kn_scT]; exact decide_eq_true h
  exact List.length_pos_of_mem (hasB_iff.1 h1)
/-- What stands beside a board. -/
theorem board_facts {l : List (Int × Int)} {a b c gap t : Int} {S : List Int} (h : boB l a b c gap S t = true) :
    iceOk l a b c gap t = true ∧ (boS l a b c gap S t).length = (boK l a b c gap S t).length ∧ (stV l a b c gap t).length + (boS l a b c gap S t).length = l.length ∧
    ldB l a b c gap S t = decide (0 < (boS l a b c gap S t).length) ∧ (0 < (boS l a b c gap S t).length → ldV l a b c gap S t = (boS l a b c gap S t)[0]?.getD 0) ∧
    (∀ k : Nat, k + 1 < (boS l a b c gap S t).length → (boK l a b c gap S t)[k + 1]?.getD 0 ≤ (boK l a b c gap S t)[k]?.getD 0) ∧
    ∀ k : Nat, k < (boS l a b c gap S t).length → hasB (stV l a b c gap t) ((boS l a b c gap S t)[k]?.getD 0) = false := by
  have h' := h
  simp only [boB, Bool.and_eq_true] at h'
  obtain ⟨hsc, hin⟩ := h'
  obtain ⟨ht, hSl, hSb⟩ := scB_of hsc
  have hice : iceOk l a b c gap t = true := by simp [iceOk, ht, hin]
  have hsl := (timedB_of ht).1
  have eS : boS l a b c gap S t = (bdT l a b c gap S t).map fun i => (l[i.toNat]?.getD (0, 0)).1 := by rw [boS, if_pos h, skL, List.take_length]
  have eK : boK l a b c gap S t = (bdT l a b c gap S t).map fun i => S[i.toNat]?.getD 0 := by rw [boK, if_pos h, knS, List.take_length]
  have eV : stV l a b c gap t = ((List.range l.length).filter fun j => !knAt l (runS l a b c gap 0 0) gap t j).map fun j => (l[j]?.getD (0, 0)).1 := by rw [stV, if_pos hice, stL]
  have eT : (bdT l a b c gap S t).length = ((List.range l.length).filter (knAt l (runS l a b c gap 0 0) gap t)).length := by
    unfold bdT; rw [stS_len]; simp [pickI]
  have hlS : (boS l a b c gap S t).length = (bdT l a b c gap S t).length := by rw [eS, List.length_map]
  refine ⟨hice, by rw [eS, eK]; simp, ?_, by rw [ldB, h, hlS]; rfl, fun h0 => ?_, fun k hk => ?_, fun k hk => ?_⟩
  · rw [hlS, eT, eV, List.length_map]
    generalize knAt l (runS l a b c gap 0 0) gap t = p
    have gen : ∀ M : List Nat, (M.filter fun j => !p j).length + (M.filter p).length = M.length := by
      intro M
      induction M with
      | nil => rfl
      | cons x r ih => cases hp : p x <;> simp [hp] <;> omega
    rw [gen]; simp
  · rw [hlS] at h0
    rw [ldV, if_pos (by rw [ldB, h]; simp [h0]), ldS, if_neg (by omega), eS]
    simp [h0]
  · rw [hlS] at hk
    have hsrt := (stS_spec (key := bKey S) (pickI (knAt l (runS l a b c gap 0 0) gap t) l.length)).1
    have e : stS (bKey S) (pickI (knAt l (runS l a b c gap 0 0) gap t) l.length) = bdT l a b c gap S t := rfl
    rw [e] at hsrt
    have h1 := (List.pairwise_iff_getElem.1 hsrt) k (k + 1) (by omega) hk (by omega)
    rw [eK]
    simp only [List.getElem?_map, List.getElem?_eq_getElem hk, List.getElem?_eq_getElem (show k < (bdT l a b c gap S t).length by omega), Option.map_some, Option.getD_some]
    unfold bKey at h1
    omega
  · rw [hlS] at hk
    obtain ⟨i, hi, hie⟩ := bdT_mem (n := l.length) rfl (getD_mem 0 (bdT l a b c gap S t) k hk)
    have hkn : knAt l (runS l a b c gap 0 0) gap t i = true := by
      have hm := getD_mem 0 (bdT l a b c gap S t) k hk
      rw [hie] at hm
      have := hasB_iff.2 (stS_mem hm)
      rw [pickI_has hi] at this
      exact this
    have ex : (boS l a b c gap S t)[k]?.getD 0 = (l[i]?.getD (0, 0)).1 := by
      rw [eS]
      have : (bdT l a b c gap S t)[k]?.getD 0 = i := hie
      rw [List.getElem?_eq_getElem hk, Option.getD_some] at this
      simp only [List.getElem?_map, List.getElem?_eq_getElem hk, Option.map_some, Option.getD_some, this, Int.toNat_natCast]
    rw [ex]
    cases hc : hasB (stV l a b c gap t) (l[i]?.getD (0, 0)).1 with
    | false => rfl
    | true =>
      have hm := hasB_iff.1 hc
      rw [eV] at hm
      simp only [List.mem_map, List.mem_filter, List.mem_range] at hm
      obtain ⟨j, ⟨hj, hjn⟩, hje⟩ := hm
      have : j = i := slots_inj hsl hj hi hje
      subst this
      rw [hkn] at hjn
      cases hjn
theorem cKey_time {p q : T3} (h : cKey p ≤ cKey q) : p.1 ≤ q.1 := by
  have h1 := ordK_bd p.2.1
  have h2 := ordK_bd q.2.1
  unfold cKey at h
  omega
theorem lt_inv (F : Int → Int) (T : List T3) (hs : Srt cKey T) (P : Int → Prop) (hP : ∀ q ∈ T, q.2.1 = 4 → P q.1 ∧ F q.1 ≠ -1) (k : Nat) (hk : k ≤ T.length) :
    (∀ x ∈ (ltF (fun q => F q.1) (-1) T k).1, P x) ∧ (∀ j, j + 1 < (ltF (fun q => F q.1) (-1) T k).1.length → (ltF (fun q => F q.1) (-1) T k).1[j]?.getD 0 < (ltF (fun q => F q.1) (-1) T k).1[j + 1]?.getD 0 ∧ F ((ltF (fun q => F q.1) (-1) T k).1[j]?.getD 0) ≠ F ((ltF (fun q => F q.1) (-1) T k).1[j + 1]?.getD 0)) ∧
    (∀ x ∈ (ltF (fun q => F q.1) (-1) T k).1, ∀ q ∈ T.drop k, x ≤ q.1) ∧ ((ltF (fun q => F q.1) (-1) T k).1.length = 0 → (ltF (fun q => F q.1) (-1) T k).2 = -1 ∧ ∀ q ∈ T.take k, q.2.1 ≠ 4) ∧
    (0 < (ltF (fun q => F q.1) (-1) T k).1.length → (ltF (fun q => F q.1) (-1) T k).2 = F ((ltF (fun q => F q.1) (-1) T k).1[(ltF (fun q => F q.1) (-1) T k).1.length - 1]?.getD 0)) := by
  induction k with
  | zero => simp [ltF]
  | succ k ih =>
    obtain ⟨i1, i2, i3, i4, i5⟩ := ih (by omega)
    rw [ltF_succ _ _ _ _ (by omega)]
    generalize ltF (fun q => F q.1) (-1) T k = st at *
    obtain ⟨o, s⟩ := st
    have hq : T[k]?.getD z3 = T[k]'(by omega) := by rw [List.getElem?_eq_getElem (by omega)]; rfl
    have hm : T[k]'(by omega) ∈ T := List.getElem_mem _
    have hd : T.drop k = T[k]'(by omega) :: T.drop (k + 1) := List.drop_eq_getElem_cons (by omega)
    have htk : T.take (k + 1) = T.take k ++ [T[k]'(by omega)] := by rw [List.take_add_one]; simp [List.getElem?_eq_getElem (show k < T.length by omega)]
    rw [hq]
    have hso := hs
    rw [← List.take_append_drop k T, hd] at hso
    have h6 : ∀ q' ∈ T.drop (k + 1), (T[k]'(by omega)).1 ≤ q'.1 := fun q' hq' => by
      have h7 := (List.pairwise_append.1 hso).2.1
      exact cKey_time ((List.pairwise_cons.1 h7).1 q' hq')
    rw [hd] at i3
    rw [htk]
    generalize T[k]'(by omega) = q at *
    simp only at i1 i2 i3 i4 i5
    by_cases hc : q.2.1 = 4 ∧ F q.1 ≠ s
    · rw [show ltStep (fun q => F q.1) (o, s) q = (o ++ [q.1], F q.1) from if_pos hc]
      obtain ⟨hp1, hp2⟩ := hP q hm hc.1
      refine ⟨fun x hx => ?_, fun j hj => ?_, fun x hx q' hq' => ?_, fun h0 => ?_, fun h0 => ?_⟩
      · rcases List.mem_append.1 hx with hx | hx
        · exact i1 x hx
        · simp at hx; subst hx; exact hp1
      · simp only [List.length_append, List.length_singleton] at hj
        by_cases hlt : j + 1 < o.length
        · simp only [List.getElem?_append_left hlt, List.getElem?_append_left (show j < o.length by omega)]
          exact i2 j hlt
        · have hjo : j + 1 = o.length := by omega
          have h7 := i5 (by omega)
          rw [show o.length - 1 = j by omega] at h7
          have ea : (o ++ [q.1])[j]?.getD 0 = o[j]?.getD 0 := by rw [List.getElem?_append_left (by omega)]
          have eb : (o ++ [q.1])[j + 1]?.getD 0 = q.1 := by rw [hjo]; simp
          simp only [ea, eb]
          have h8 : F (o[j]?.getD 0) ≠ F q.1 := by rw [← h7]; exact fun e => hc.2 e.symm
          have h9 := i3 _ (getD_mem 0 o j (by omega)) q List.mem_cons_self
          refine ⟨?_, h8⟩
          have h10 : o[j]?.getD 0 ≠ q.1 := fun e => h8 (by rw [e])
          omega
      · rcases List.mem_append.1 hx with hx | hx
        · exact i3 x hx q' (List.mem_cons_of_mem _ hq')
        · simp at hx; subst hx; exact h6 q' hq'
      · simp at h0
      · simp
    · rw [show ltStep (fun q => F q.1) (o, s) q = (o, s) from if_neg hc]
      refine ⟨i1, i2, fun x hx q' hq' => i3 x hx q' (List.mem_cons_of_mem _ hq'), fun h0 => ?_, i5⟩
      obtain ⟨j1, j2⟩ := i4 h0
      refine ⟨j1, fun x hx => ?_⟩
      rcases List.mem_append.1 hx with hx | hx
      · exact j2 x hx
      · simp at hx; subst hx
        intro h4
        refine hc ⟨h4, ?_⟩
        rw [j1]
        exact (hP _ hm h4).2
theorem score_cue {l : List (Int × Int)} {a b c gap : Int} {q : T3} (h : q ∈ cuT l a b c gap) (h4 : q.2.1 = 4) : ∃ i : Nat, i < l.length ∧ q.1 = scT l a b c gap i := by
  have hm := stS_mem h
  rw [cuA, List.mem_append] at hm
  rcases hm with hm | hm
  · simp only [wmC, List.mem_map] at hm
    obtain ⟨t, _, rfl⟩ := hm
    simp at h4
  · simp only [slC, List.mem_flatMap, List.mem_range] at hm
    obtain ⟨i, hi, hm⟩ := hm
    simp only [List.mem_cons, List.not_mem_nil, or_false] at hm
    rcases hm with rfl | rfl | rfl
    · simp at h4
    · simp at h4
    · exact ⟨i, hi, rfl⟩
/-- The times at which the leader changes. -/
theorem lead_facts {l : List (Int × Int)} {a b c gap : Int} {S : List Int} (h : scB l a b c gap S = true) :
    1 ≤ (ltV l a b c gap S).length ∧ (∀ k : Nat, k < (ltV l a b c gap S).length → ldB l a b c gap S ((ltV l a b c gap S)[k]?.getD 0) = true) ∧
    ∀ k : Nat, k + 1 < (ltV l a b c gap S).length → (ltV l a b c gap S)[k]?.getD 0 < (ltV l a b c gap S)[k + 1]?.getD 0 ∧ ldV l a b c gap S ((ltV l a b c gap S)[k + 1]?.getD 0) ≠ ldV l a b c gap S ((ltV l a b c gap S)[k]?.getD 0) := by
  obtain ⟨ht, hSl, hSb⟩ := scB_of h
  have hsl := (timedB_of ht).1
  have hn := (slotsB_of hsl).2.1
  have eV : ltV l a b c gap S = (ltF (fun q => ldI (bdT l a b c gap S q.1)) (-1) (cuT l a b c gap) (cuT l a b c gap).length).1 := by rw [ltV, if_pos h]; rfl
  have hlB : ∀ i : Nat, i < l.length → ldB l a b c gap S (scT l a b c gap i) = true := fun i hi => by
    have h1 := scT_bd ht i hi
    have h2 := bd_pos (S := S) hi (Int.le_refl (scT l a b c gap i))
    have h3 : inB (scT l a b c gap i) 0 200000 = true := inB_iff.2 h1
    rw [ldB, boB, h, h3]
    simpa using h2
  have hP : ∀ q ∈ cuT l a b c gap, q.2.1 = 4 → (∃ i : Nat, i < l.length ∧ q.1 = scT l a b c gap i) ∧ ldI (bdT l a b c gap S q.1) ≠ -1 := fun q hq h4 => by
    obtain ⟨i, hi, he⟩ := score_cue hq h4
    refine ⟨⟨i, hi, he⟩, ?_⟩
    have h2 := bd_pos (S := S) hi (show scT l a b c gap i ≤ q.1 by omega)
    obtain ⟨j, _, hje⟩ := bdT_mem (n := l.length) rfl (getD_mem 0 (bdT l a b c gap S q.1) 0 h2)
    rw [ldI, if_neg (by omega), hje]
    omega
  obtain ⟨i1, i2, _, i4, _⟩ := lt_inv (fun t => ldI (bdT l a b c gap S t)) (cuT l a b c gap) (stS_spec _).1 (fun x => ∃ i : Nat, i < l.length ∧ x = scT l a b c gap i) hP (cuT l a b c gap).length (Nat.le_refl _)
  rw [← eV] at i1 i2 i4
  have hall : ∀ k : Nat, k < (ltV l a b c gap S).length → ldB l a b c gap S ((ltV l a b c gap S)[k]?.getD 0) = true := fun k hk => by
    obtain ⟨i, hi, he⟩ := i1 _ (getD_mem 0 _ k hk)
    rw [he]; exact hlB i hi
  refine ⟨?_, hall, fun k hk => ⟨(i2 k hk).1, ?_⟩⟩
  · rcases Nat.lt_or_ge 0 (ltV l a b c gap S).length with h0 | h0
    · exact h0
    · exfalso
      have h1 := (i4 (by omega)).2
      rw [List.take_length] at h1
      have hm : ((runS l a b c gap 0 0)[0]?.getD 0 + (l[0]?.getD (0, 0)).2 + gap, (4 : Int), (l[0]?.getD (0, 0)).1) ∈ cuT l a b c gap := by
        refine (stS_spec (key := cKey) (cuA l a b c gap)).2.symm.mem ?_
        rw [cuA, List.mem_append]
        refine .inr ?_
        simp only [slC, List.mem_flatMap, List.mem_range]
        exact ⟨0, by omega, by simp⟩
      exact h1 _ hm rfl
  · have h1 := hall k (by omega)
    have h2 := hall (k + 1) hk
    rw [ldV, if_pos h2, ldV, if_pos h1, ld_phi, ld_phi]
    intro e
    exact (i2 k hk).2 (phi_inj hsl _ _ ld_dom ld_dom e).symm
end Go.Proofs.Ytogglhgagblihaa
