/- Plain: the times at which the leader changes, told by the index or by the skater. Conditions: none. -/
import Derived.Test.YtogglhgagblihaaZCuesP
import Derived.Test.YtogglhgagblihaaZBoard5
set_option linter.unusedVariables false
set_option linter.unusedSimpArgs false
set_option maxRecDepth 100000
namespace Go.Proofs.Ytogglhgagblihaa
def ltStep (f : T3 → Int) (s : List Int × Int) (q : T3) : List Int × Int := if q.2.1 = 4 ∧ f q ≠ s.2 then (s.1 ++ [q.1], f q) else s
def ltF (f : T3 → Int) (s0 : Int) (T : List T3) (k : Nat) : List Int × Int := (T.take k).foldl (ltStep f) ([], s0)
theorem ltF_succ (f : T3 → Int) (s0 : Int) (T : List T3) (k : Nat) (h : k < T.length) : ltF f s0 T (k + 1) = ltStep f (ltF f s0 T k) (T[k]?.getD z3) := by
  rw [ltF, take_succ_getD z3 T k h, List.foldl_append]; rfl
theorem ltF_len (f : T3 → Int) (s0 : Int) (T : List T3) (k : Nat) : (ltF f s0 T k).1.length ≤ k := by
  have gen : ∀ (M : List T3) (s : List Int × Int), (M.foldl (ltStep f) s).1.length ≤ s.1.length + M.length := by
    intro M
    induction M with
    | nil => intro s; simp
    | cons q r ih =>
      intro s
      have h1 := ih (ltStep f s q)
      have h2 : (ltStep f s q).1.length ≤ s.1.length + 1 := by unfold ltStep; split <;> simp
      simp only [List.foldl_cons, List.length_cons]; omega
  have := gen (T.take k) ([], s0)
  have h3 : (T.take k).length ≤ k := List.length_take_le _ _
  simp only [List.length_nil, Nat.zero_add] at this
  unfold ltF; omega
/-- The state is the first one, or what f says at some cue. -/
theorem ltF_st (f : T3 → Int) (s0 : Int) (T : List T3) (k : Nat) : (ltF f s0 T k).2 = s0 ∨ ∃ q, (ltF f s0 T k).2 = f q := by
  have gen : ∀ (M : List T3) (s : List Int × Int), (s.2 = s0 ∨ ∃ q, s.2 = f q) → ((M.foldl (ltStep f) s).2 = s0 ∨ ∃ q, (M.foldl (ltStep f) s).2 = f q) := by
    intro M
    induction M with
    | nil => intro s h; exact h
    | cons q r ih =>
      intro s h
      refine ih _ ?_
      unfold ltStep; split
      · exact .inr ⟨q, rfl⟩
      · exact h
  exact gen _ _ (.inl rfl)
theorem lt_eq {f g : T3 → Int} {φ : Int → Int} {D : Int → Prop} (hφ : ∀ x y, D x → D y → φ x = φ y → x = y) (hf : ∀ q, D (f q)) (hg : ∀ q, g q = φ (f q)) {s0 : Int} (h0 : D s0) (T : List T3) (k : Nat) : (ltF g (φ s0) T k).1 = (ltF f s0 T k).1 := by
  have gen : ∀ (M : List T3) (o : List Int) (s : Int), D s → (M.foldl (ltStep g) (o, φ s)).1 = (M.foldl (ltStep f) (o, s)).1 := by
    intro M
    induction M with
    | nil => intro o s _; rfl
    | cons q r ih =>
      intro o s hs
      simp only [List.foldl_cons]
      by_cases hc : q.2.1 = 4 ∧ f q ≠ s
      · have hc' : q.2.1 = 4 ∧ g q ≠ φ s := ⟨hc.1, fun e => hc.2 (hφ _ _ (hf q) hs (by rw [← hg]; exact e))⟩
        rw [show ltStep g (o, φ s) q = (o ++ [q.1], φ (f q)) by unfold ltStep; rw [if_pos hc', hg], show ltStep f (o, s) q = (o ++ [q.1], f q) from if_pos hc]
        exact ih _ _ (hf q)
      · have hc' : ¬ (q.2.1 = 4 ∧ g q ≠ φ s) := fun h => hc ⟨h.1, fun e => h.2 (by rw [hg, e])⟩
        rw [show ltStep g (o, φ s) q = (o, φ s) from if_neg hc', show ltStep f (o, s) q = (o, s) from if_neg hc]
        exact ih _ _ hs
  exact gen _ _ _ h0
/-- The skater of an index; nobody: 0. -/
def phiS (l : List (Int × Int)) (i : Int) : Int := if i = -1 then 0 else (l[i.toNat]?.getD (0, 0)).1
theorem slots_inj {l : List (Int × Int)} (h : slotsB l = true) {i j : Nat} (hi : i < l.length) (hj : j < l.length) (e : (l[i]?.getD (0, 0)).1 = (l[j]?.getD (0, 0)).1) : i = j := by
  have key : ∀ i j : Nat, i < j → j < l.length → (l[i]?.getD (0, 0)).1 ≠ (l[j]?.getD (0, 0)).1 := fun i j hij hj e => by
    have h1 := (slotsB_of h).1 j hj
    simp only [slotOkAt, Bool.and_eq_true] at h1
    have h2 := h1.1.2
    simp only [Bool.not_eq_true', List.any_eq_false] at h2
    have hm : l[i]?.getD (0, 0) ∈ l.take j := by
      rw [List.mem_take_iff_getElem]
      exact ⟨i, by omega, by simp [show i < l.length by omega]⟩
    exact h2 _ hm (by simp [e])
  rcases Nat.lt_trichotomy i j with h1 | h1 | h1
  · exact absurd e (key i j h1 hj)
  · exact h1
  · exact absurd e.symm (key j i h1 hi)
def DomI (n : Nat) (i : Int) : Prop := i = -1 ∨ ∃ k : Nat, k < n ∧ i = k
theorem phi_inj {l : List (Int × Int)} (h : slotsB l = true) (x y : Int) (hx : DomI l.length x) (hy : DomI l.length y) (e : phiS l x = phiS l y) : x = y := by
  rcases hx with rfl | ⟨i, hi, rfl⟩
  · rcases hy with rfl | ⟨j, hj, rfl⟩
    · rfl
    · have := slot_pos h j hj
      rw [phiS, if_pos rfl, phiS, if_neg (by omega), Int.toNat_natCast] at e
      omega
  · rcases hy with rfl | ⟨j, hj, rfl⟩
    · have := slot_pos h i hi
      rw [phiS, if_neg (by omega), Int.toNat_natCast, phiS, if_pos rfl] at e
      omega
    · rw [phiS, if_neg (by omega), phiS, if_neg (by omega), Int.toNat_natCast, Int.toNat_natCast] at e
      rw [slots_inj h hi hj e]
theorem ld_dom {l : List (Int × Int)} {a b c gap t : Int} {S : List Int} : DomI l.length (ldI (bdT l a b c gap S t)) := by
  by_cases h0 : (bdT l a b c gap S t).length = 0
  · exact .inl (if_pos h0)
  · obtain ⟨i, hi, hie⟩ := bdT_mem (t := t) (S := S) (a := a) (b := b) (c := c) (gap := gap) (n := l.length) rfl (getD_mem 0 (bdT l a b c gap S t) 0 (by omega))
    exact .inr ⟨i, hi, by rw [ldI, if_neg h0, hie]⟩
theorem ld_phi {l : List (Int × Int)} {a b c gap t : Int} {S : List Int} : ldS l (bdT l a b c gap S t) = phiS l (ldI (bdT l a b c gap S t)) := by
  by_cases h0 : (bdT l a b c gap S t).length = 0
  · rw [ldS, if_pos h0, ldI, if_pos h0, phiS, if_pos rfl]
  · obtain ⟨i, hi, hie⟩ := bdT_mem (t := t) (S := S) (a := a) (b := b) (c := c) (gap := gap) (n := l.length) rfl (getD_mem 0 (bdT l a b c gap S t) 0 (by omega))
    rw [ldS, if_neg h0, ldI, if_neg h0, hie, phiS, if_neg (by omega)]
/-- The times at which the leader changes. -/
def ltL (l : List (Int × Int)) (a b c gap : Int) (S : List Int) : List Int := (ltF (fun q => ldI (bdT l a b c gap S q.1)) (-1) (cuT l a b c gap) (cuT l a b c gap).length).1
theorem ltL_imp {l : List (Int × Int)} {a b c gap : Int} {S : List Int} (h : slotsB l = true) : (ltF (fun q => ldS l (bdT l a b c gap S q.1)) 0 (cuT l a b c gap) (cuT l a b c gap).length).1 = ltL l a b c gap S :=
  lt_eq (φ := phiS l) (D := DomI l.length) (phi_inj h) (fun q => ld_dom) (fun q => ld_phi) (s0 := -1) (.inl rfl) _ _
def ltV (l : List (Int × Int)) (a b c gap : Int) (S : List Int) : List Int := if scB l a b c gap S then ltL l a b c gap S else []
theorem ltV_len (l : List (Int × Int)) (a b c gap : Int) (S : List Int) : (ltV l a b c gap S).length ≤ 160 := by
  unfold ltV; split
  · rename_i h
    exact Nat.le_trans (ltF_len _ _ _ _) (cuT_len (scB_of h).1)
  · simp
end Go.Proofs.Ytogglhgagblihaa
