/- Plain: the number of panels by subsets is the coefficient of the product over clubs. Conditions: none. -/
import Derived.Test.YtppcmnolkbobfaaCountP
import Derived.Test.YtppcmnolkbobfaaPanel3
set_option linter.unusedVariables false
set_option linter.unusedSimpArgs false
set_option maxRecDepth 100000
namespace Go.Proofs.Ytppcmnolkbobfaa
def fc (l : List T3) (x : Int) : Nat := (clubV l x).toNat
theorem fc_lt {l : List T3} (h : offsB l = true) (x : Int) : fc l x < 21 := by have := clubV_bd h x; unfold fc; omega
theorem elig_le {l : List T3} {cl : List Int} {v x : Int} (hof : offsB l = true) (h : x ∈ eligL l cl v) : 1 ≤ x ∧ x ≤ 999 := by
  have h1 := fI_lt (elig_mem h)
  have h2 := (offs_at hof _ h1.1).1
  rw [h1.2] at h2
  exact h2
theorem sel_sub {α : Type} (d : α) (L : List α) (s k : Nat) (hk : k ≤ L.length) : (sel d L s k).Sublist (L.take k) := by
  induction k with
  | zero => simp [sel]
  | succ k ih =>
    rw [take_succ_getD d L k (by omega)]
    simp only [sel]
    split
    · exact (ih (by omega)).append (List.Sublist.refl _)
    · exact (ih (by omega)).trans (List.sublist_append_left _ _)
theorem eligL_SS {l : List T3} (cl : List Int) (v : Int) (h : offsB l = true) : SS (eligL l cl v) := sortI_SS (elN_nodup cl v h)
theorem ris_of {P : List Int} (h : SS P) (hb : ∀ x ∈ P, 1 ≤ x ∧ x ≤ 999) : risB P 1 999 = true := List.all_eq_true.2 fun i hi => by
  have hi : i < P.length := by simpa using hi
  have h1 := hb _ (getD_mem 0 P i hi)
  unfold risAt
  rw [Bool.and_eq_true]
  refine ⟨inB_iff.2 h1, ?_⟩
  cases i with
  | zero => rfl
  | succ i =>
    rw [Bool.or_eq_true]
    refine .inr ?_
    rw [Nat.add_sub_cancel, decide_eq_true_iff]
    exact h.get (Nat.lt_succ_self i) hi
theorem szL_count {l : List T3} {P : List Int} (hof : offsB l = true) (c : Nat) (hc : c < 21) : (szL l P)[c]?.getD 0 = ((P.map (fc l)).count c : Nat) := by
  rw [szL_get l P c hc, List.count, List.countP_map, List.countP_eq_length_filter]
  congr 2
  apply List.filter_congr
  intro x _
  have := clubV_bd hof x
  simp only [fc, Function.comp]
  rw [Bool.eq_iff_iff, beq_iff_eq, beq_iff_eq]
  omega
theorem pan_good {l : List T3} {cl : List Int} {v q : Int} {n s : Nat} (hof : offsB l = true) (hq : 1 ≤ q) (h1 : 1 ≤ n) (h9 : n ≤ 9) :
    ((sel 0 (eligL l cl v) s (eligL l cl v).length).length == n && panB l cl v q (sel 0 (eligL l cl v) s (eligL l cl v).length)) = goodB (fun _ => q.toNat) n ((sel 0 (eligL l cl v) s (eligL l cl v).length).map (fc l)) := by
  have hsub := sel_sub 0 (eligL l cl v) s (eligL l cl v).length (Nat.le_refl _)
  rw [List.take_length] at hsub
  generalize sel 0 (eligL l cl v) s (eligL l cl v).length = P at *
  have hss : SS P := List.Pairwise.sublist hsub (eligL_SS cl v hof)
  have hmem : ∀ x ∈ P, x ∈ eligL l cl v := fun x hx => hsub.subset hx
  have hin : inAllB (eligL l cl v) P = true := List.all_eq_true.2 fun x hx => by rw [hasB_iff]; exact hmem x hx
  have hris : risB P 1 999 = true := ris_of hss (fun x hx => elig_le hof (hmem x hx))
  have hcap : capB (szL l P) q = true ↔ ∀ c ∈ P.map (fc l), (P.map (fc l)).count c ≤ q.toNat := by
    constructor
    · intro h c hc
      obtain ⟨x, _, rfl⟩ := List.mem_map.1 hc
      have hlt := fc_lt hof x
      have h2 := List.all_eq_true.1 h _ (getD_mem 0 (szL l P) (fc l x) (by rw [szL_len]; exact hlt))
      rw [szL_count hof _ hlt] at h2
      have h2 := of_decide_eq_true h2
      omega
    · intro h
      refine capB_yes fun c hc => ?_
      rw [szL_len] at hc
      rw [szL_count hof c hc]
      by_cases hm : c ∈ P.map (fc l)
      · have := h c hm; omega
      · rw [List.count_eq_zero_of_not_mem hm]; simp only [Int.natCast_zero]; omega
  rw [Bool.eq_iff_iff, goodB_iff, Bool.and_eq_true, beq_iff_eq, List.length_map, ← hcap]
  unfold panB
  rw [hris, hin]
  constructor
  · rintro ⟨e, h⟩
    refine ⟨e, ?_⟩
    simpa [Bool.and_eq_true] using (Bool.and_eq_true_iff.1 h).2
  · rintro ⟨e, h⟩
    refine ⟨e, ?_⟩
    rw [h, show inB P.length 1 9 = true from inB_iff.2 ⟨by omega, by omega⟩]
    rfl
def cpB (l : List T3) (cl : List Int) (v q n : Int) : Bool := canB l cl v q && inB n 1 9 && decide (l.length ≤ 14)
def hitB (l : List T3) (cl : List Int) (v q : Int) (n s : Nat) : Bool := (sel 0 (eligL l cl v) s (eligL l cl v).length).length == n && panB l cl v q (sel 0 (eligL l cl v) s (eligL l cl v).length)
def cpN (l : List T3) (cl : List Int) (v q : Int) (n k : Nat) : Nat := cnt (hitB l cl v q n) k
def cpV (l : List T3) (cl : List Int) (v q n : Int) : Int := if cpB l cl v q n then (cpN l cl v q n.toNat (2 ^ (eligL l cl v).length) : Nat) else 0
def wyV (l : List T3) (cl : List Int) (v q : Int) (j : Nat) : Nat → Nat := HH (szf ((eligL l cl v).map (fc l))) (fun _ => q.toNat) j
theorem cp_eq {l : List T3} {cl : List Int} {v q : Int} {n : Nat} (hof : offsB l = true) (hq : 1 ≤ q) (h1 : 1 ≤ n) (h9 : n ≤ 9) : cpN l cl v q n (2 ^ (eligL l cl v).length) = wyV l cl v q 21 n := by
  unfold cpN wyV
  rw [cnt_congr (Q := fun s => goodB (fun _ => q.toNat) n (sel 0 ((eligL l cl v).map (fc l)) s (eligL l cl v).length)) (fun k _ => by
    unfold hitB
    rw [pan_good hof hq h1 h9, sel_map 0 (fc l) _ _ _ (Nat.le_refl _) 0])]
  have := cnt_main ((eligL l cl v).map (fc l)) 21 (fun x hx => by obtain ⟨y, _, rfl⟩ := List.mem_map.1 hx; exact fc_lt hof y) (eligL l cl v).length (by simp) (fun _ => q.toNat) n
  rw [this, show (eligL l cl v).length = ((eligL l cl v).map (fc l)).length by simp, List.take_length]
theorem wy_bd (l : List T3) (cl : List Int) (v q : Int) (j n : Nat) : wyV l cl v q j n ≤ 2 ^ (eligL l cl v).length := by
  have := HH_bd ((eligL l cl v).map (fc l)) ((eligL l cl v).map (fc l)).length (Nat.le_refl _) (fun _ => q.toNat) j n
  rw [List.take_length] at this
  simpa [wyV] using this
theorem wy_zero (l : List T3) (cl : List Int) (v q : Int) (n : Nat) : row (wyV l cl v q 0) n = (List.replicate (n + 1) (0 : Int)).set 0 1 := by
  unfold row wyV
  apply List.ext_getElem (by simp)
  intro i h1 h2
  rw [List.getElem_set]
  simp only [List.getElem_map, List.getElem_range, List.getElem_replicate, HH]
  by_cases e : i = 0
  · subst e; rfl
  · rw [if_neg e, if_neg (by omega)]; rfl
theorem wy_succ (l : List T3) (cl : List Int) (v q : Int) (j : Nat) : wyV l cl v q (j + 1) = conv (wyV l cl v q j) (pc (szf ((eligL l cl v).map (fc l)) j) q.toNat) := rfl
theorem pc_in {s cap k : Nat} (h : k ≤ cap) : pc s cap k = ch s k := if_pos h
theorem pc_out {s cap k : Nat} (h : s < k ∨ cap < k) : pc s cap k = 0 := by
  unfold pc
  split
  · exact ch_big (by omega)
  · rfl
theorem pc_le (s cap k : Nat) : pc s cap k ≤ 2 ^ s := by
  unfold pc; split
  · exact ch_le s k
  · exact Nat.zero_le _
theorem pow_le {a b : Nat} (h : a ≤ b) : 2 ^ a ≤ 2 ^ b := Nat.pow_le_pow_right (by omega) h
end Go.Proofs.Ytppcmnolkbobfaa
