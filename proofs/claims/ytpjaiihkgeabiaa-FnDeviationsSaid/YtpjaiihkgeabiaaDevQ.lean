/- Plain facts for the law FnDeviations: agreements of two judges, who is outside, medians and ranges, deviations of all judges. Conditions: none. -/
import Derived.Test.YtpjaiihkgeabiaaJudge
import Derived.Test.YtpjaiihkgeabiaaRanges
import Derived.Test.YtpjaiihkgeabiaaOutside
import Derived.Test.YtpjaiihkgeabiaaMarks5
set_option linter.unusedVariables false
set_option linter.unusedSimpArgs false
set_option maxRecDepth 100000
namespace Go.Proofs.Ytpjaiihkgeabiaa
open Go.RowKit
theorem sumUp_congr {f g : Nat → Int} : ∀ (n : Nat), (∀ k, k < n → f k = g k) → sumUp f n = sumUp g n
  | 0, _ => rfl
  | n + 1, h => by rw [sumUp_succ, sumUp_succ, sumUp_congr n (fun k hk => h k (by omega)), h n (by omega)]
theorem sumUp_le {f g : Nat → Int} : ∀ (n : Nat), (∀ k, k < n → f k ≤ g k) → sumUp f n ≤ sumUp g n
  | 0, _ => Int.le_refl _
  | n + 1, h => by
    rw [sumUp_succ, sumUp_succ]
    have h1 := sumUp_le (f := f) (g := g) n (fun k hk => h k (by omega))
    have h2 := h n (by omega)
    omega
theorem sumUp_zero (n : Nat) : sumUp (fun _ => 0) n = 0 := by
  induction n with
  | zero => rfl
  | succ n ih => rw [sumUp_succ, ih]; rfl
theorem sumUp_one (n : Nat) : sumUp (fun _ => 1) n = n := by
  induction n with
  | zero => rfl
  | succ n ih => rw [sumUp_succ, ih]; omega
theorem sumUp_add (f g : Nat → Int) (n : Nat) : sumUp (fun k => f k + g k) n = sumUp f n + sumUp g n := by
  induction n with
  | zero => rfl
  | succ n ih => rw [sumUp_succ, sumUp_succ, sumUp_succ, ih]; omega
theorem sumUp_mul (c : Int) (f : Nat → Int) (n : Nat) : sumUp (fun k => c * f k) n = c * sumUp f n := by
  induction n with
  | zero => simp [sumUp]
  | succ n ih => rw [sumUp_succ, sumUp_succ, ih, Int.mul_add]
theorem sumUp_const (c : Int) (n : Nat) : sumUp (fun _ => c) n = n * c := by
  induction n with
  | zero => simp [sumUp]
  | succ n ih => rw [sumUp_succ, ih, Int.natCast_succ, Int.add_mul, Int.one_mul]
theorem sumUp_swap (f : Nat → Nat → Int) (n m : Nat) : sumUp (fun i => sumUp (fun j => f i j) m) n = sumUp (fun j => sumUp (fun i => f i j) n) m := by
  induction n with
  | zero => rw [show sumUp (fun i => sumUp (fun j => f i j) m) 0 = 0 from rfl]; exact (sumUp_zero m).symm
  | succ n ih =>
    rw [sumUp_succ, ih, ← sumUp_add]
    exact sumUp_congr m fun k _ => (sumUp_succ (fun i => f i k) n).symm
/-- The abs of a sum is at most the sum of the abs. -/
theorem sumUp_abs (f : Nat → Int) (n : Nat) : absM (sumUp f n) ≤ sumUp (fun k => absM (f k)) n := by
  induction n with
  | zero => simp [sumUp, absM]
  | succ n ih => rw [sumUp_succ, sumUp_succ]; unfold absM at *; omega
theorem sumUp_nn {f : Nat → Int} (n : Nat) (h : ∀ k, k < n → 0 ≤ f k) : 0 ≤ sumUp f n := by
  have := sumUp_le (f := fun _ => 0) (g := f) n h
  rw [sumUp_zero] at this
  exact this
theorem absM_nn (a : Int) : 0 ≤ absM a := by unfold absM; omega
theorem sumUp_at (l : List Int) : ∀ n, sumUp (fun k => atI l (k : Nat)) n = sumTo l n
  | 0 => by simp [sumUp, sumTo]
  | n + 1 => by
    rw [sumUp_succ, sumUp_at l n]
    by_cases h : n < l.length
    · rw [sumTo_succ l n h]; simp [atI]
    · unfold sumTo atI
      rw [List.take_of_length_le (by omega), List.take_of_length_le (by omega)]
      simp [List.getElem?_eq_none (Nat.le_of_not_lt h)]
/-- The deviations of all judges at one item add up to nothing. -/
theorem dev_item (l : List Int) : sumUp (fun k => devI l (k : Nat)) l.length = 0 := by
  have e : sumUp (fun k => devI l (k : Nat)) l.length = sumUp (fun k => (l.length : Int) * atI l (k : Nat) + (-sumTo l l.length)) l.length := sumUp_congr _ fun k _ => by unfold devI; omega
  rw [e, sumUp_add, sumUp_mul, sumUp_at, sumUp_const, Int.mul_neg]
  omega
theorem dev_all {gg kk : List (List Int)} (h : marksB gg kk = true) : sumUp (fun k => devU gg (k : Nat) gg.length) (judgesN kk) = 0 := by
  obtain ⟨_, _, _, hr⟩ := marksB_of h
  unfold devU
  rw [sumUp_swap (fun k i => devI (rowOf gg i) (k : Nat))]
  rw [sumUp_congr (g := fun _ => 0) gg.length (fun i hi => by have := dev_item (rowOf gg i); rw [show (rowOf gg i).length = judgesN kk from (hr i hi).1] at this; exact this)]
  exact sumUp_zero _
theorem judge_k {gg kk : List (List Int)} (h : marksB gg kk = true) {k : Nat} (hk : k < judgesN kk) : judgeB gg kk (k : Nat) = true := by
  simp only [judgeB, h, Bool.true_and]
  exact inB_iff.2 ⟨by omega, by omega⟩
/-- What the loop over the judges adds up. -/
theorem dev_loop {gg kk : List (List Int)} (h : marksB gg kk = true) {k : Nat} (hk : k < judgesN kk) :
    judgeB gg kk (k : Nat) = true ∧ absM (dvA gg kk (k : Nat)) ≤ dvB gg kk (k : Nat) ∧ sumUp (fun k => devU gg (k : Nat) gg.length) (k + 1) = sumUp (fun k => devU gg (k : Nat) gg.length) k + dvA gg kk (k : Nat) := by
  have hj := judge_k h hk
  obtain ⟨h1, h2⟩ := dv_yes hj
  refine ⟨hj, ?_, ?_⟩
  · rw [h1, h2]; exact sumUp_abs _ _
  · rw [h1]; exact sumUp_succ _ _
theorem dev_size (gg kk : List (List Int)) (a : Int) : 0 ≤ dvB gg kk a := by
  unfold dvB
  split
  · exact sumUp_nn _ fun k _ => absM_nn _
  · exact Int.le_refl _
theorem devU_bd14 {gg kk : List (List Int)} (h : marksB gg kk = true) {k : Nat} (hk : k < judgesN kk) : -1260 ≤ devU gg (k : Nat) gg.length ∧ devU gg (k : Nat) gg.length ≤ 1260 := by
  obtain ⟨_, h14, hj, hr⟩ := marksB_of h
  have := sumUp_bd14 (B := 90) (by omega) gg.length h14 (f := fun i => devI (rowOf gg i) (k : Nat)) fun i hi => by
    obtain ⟨q1, q2⟩ := hr i hi
    exact devI_bd q2 (by omega) (by show ((k : Nat) : Int) < ((rowOf gg i).length : Nat); rw [show (rowOf gg i).length = judgesN kk from q1]; omega) (by rw [show (rowOf gg i).length = judgesN kk from q1]; omega)
  unfold devU
  omega
theorem devS_bd {gg kk : List (List Int)} (h : marksB gg kk = true) {k : Nat} (hk : k ≤ judgesN kk) : -20000 ≤ sumUp (fun k => devU gg (k : Nat) gg.length) k ∧ sumUp (fun k => devU gg (k : Nat) gg.length) k ≤ 20000 := by
  have hj := (marksB_of h).2.2.1
  have := sumUp_bd14 (B := 1260) (by omega) k (by omega) (f := fun k => devU gg (k : Nat) gg.length) fun i hi => devU_bd14 h (by omega)
  omega
/-- Two judges' agreement. -/
theorem agOk_swap (gg kk : List (List Int)) (a b : Int) : agOk gg kk b a = agOk gg kk a b := by unfold agOk; rw [Bool.and_comm]
theorem agV_swap (gg kk : List (List Int)) (a b : Int) : agV gg kk b a = agV gg kk a b := by
  unfold agV agreeU
  rw [agOk_swap]
  congr 1
  exact sumUp_congr _ fun k _ => by
    congr 1
    exact Bool.eq_iff_iff.2 ⟨fun h => by simpa using (by simpa using h : atI (rowOf gg k) b = atI (rowOf gg k) a).symm, fun h => by simpa using (by simpa using h : atI (rowOf gg k) a = atI (rowOf gg k) b).symm⟩
theorem tri_bd : ∀ n : Nat, sumUp (fun i => (i : Int)) n * 2 = n * ((n : Int) - 1)
  | 0 => by simp [sumUp]
  | n + 1 => by
    rw [sumUp_succ, Int.add_mul, tri_bd n, Int.natCast_succ]
    have e : ((n : Int) + 1) * ((n : Int) + 1 - 1) = n * n + n := by
      rw [show (n : Int) + 1 - 1 = n by omega, Int.add_mul]; omega
    rw [e, Int.mul_sub]
    omega
theorem tri14 (n : Nat) (h : n ≤ 14) : -1000 ≤ (n : Int) * ((n : Int) - 1) ∧ (n : Int) * ((n : Int) - 1) ≤ 1000 :=
  (by decide : ∀ n : Fin 15, -1000 ≤ ((n.val : Nat) : Int) * (((n.val : Nat) : Int) - 1) ∧ ((n.val : Nat) : Int) * (((n.val : Nat) : Int) - 1) ≤ 1000) ⟨n, by omega⟩
theorem ord_pairs (gg : List (List Int)) (a b : Int) (n : Nat) : 2 * (ordU gg a b 1 n + ordU gg a b (-1) n) ≤ n * ((n : Int) - 1) := by
  unfold ordU
  rw [← sumUp_add]
  have h1 : sumUp (fun i => ordT gg a b 1 i i + ordT gg a b (-1) i i) n ≤ sumUp (fun i => (i : Int)) n := sumUp_le n fun i _ => by
    unfold ordT
    rw [← sumUp_add, ← sumUp_one i]
    exact sumUp_le i fun j _ => by
      rcases ordI_cases gg a b i j with h | h | h <;> rw [h] <;> decide
  have := tri_bd n
  omega
theorem agree_facts {gg kk : List (List Int)} {a b : Int} (h : agOk gg kk a b = true) :
    gg.length ≤ 14 ∧ (0 ≤ agV gg kk a b ∧ agV gg kk a b ≤ gg.length) ∧ (-196 ≤ oaV gg kk a b 1 ∧ oaV gg kk a b 1 ≤ 196) ∧ (-196 ≤ oaV gg kk a b (-1) ∧ oaV gg kk a b (-1) ≤ 196) ∧ 2 * (oaV gg kk a b 1 + oaV gg kk a b (-1)) ≤ gg.length * ((gg.length : Int) - 1) ∧ (a = b → agV gg kk a b = gg.length ∧ oaV gg kk a b (-1) = 0) := by
  have h14 := (marksB_of (judgeB_of (agOk_of h).1).1).2.1
  rw [ag_yes h, oa_yes h, oa_yes h]
  refine ⟨h14, ⟨sumUp_nn _ fun _ _ => boolN_nn _, ?_⟩, ordU_bd _ _ _ _ _ h14, ordU_bd _ _ _ _ _ h14, ord_pairs _ _ _ _, fun e => ?_⟩
  · have := sumUp_le (f := fun k => boolN (atI (rowOf gg k) a == atI (rowOf gg k) b)) (g := fun _ => 1) gg.length fun k _ => (boolN_bd _).2
    rw [sumUp_one] at this
    exact this
  · subst e
    refine ⟨?_, ?_⟩
    · have := sumUp_congr (f := fun k => boolN (atI (rowOf gg k) a == atI (rowOf gg k) a)) (g := fun _ => 1) gg.length fun k _ => by simp [boolN]
      rw [sumUp_one] at this
      exact this
    · have e2 : ∀ i j, boolN (ordI gg a a i j == -1) = 0 := fun i j => by
        have : ordI gg a a i j ≠ -1 := by
          unfold ordI
          rcases sgnI_cases (atI (rowOf gg i) a - atI (rowOf gg j) a) with h | h | h <;> rw [h] <;> decide
        simp [boolN, this]
      unfold ordU ordT
      rw [sumUp_congr (g := fun _ => 0) gg.length fun i _ => (by rw [sumUp_congr (g := fun _ => 0) i fun j _ => e2 i j]; exact sumUp_zero i)]
      exact sumUp_zero _
/-- Whoever is outside a greater limit is outside the smaller one. -/
def hasI (l : List Int) (x : Int) : Bool := l.any fun y => y == x
theorem hasI_of {l : List Int} {x : Int} (h : x ∈ l) : hasI l x = true := List.any_eq_true.2 ⟨x, h, by simp⟩
theorem out_more {gg kk : List (List Int)} {i lim : Int} (h : outOk gg kk i lim = true) (hl : lim < 10) : outOk gg kk i (lim + 1) = true ∧ ∀ j, j < (outV gg kk i (lim + 1)).length → hasI (outV gg kk i lim) ((outV gg kk i (lim + 1))[j]?.getD 0) = true := by
  have h0 := h
  have hb := (outOk_of h).2.2
  simp only [outOk, Bool.and_eq_true] at h0
  have h1 : outOk gg kk i (lim + 1) = true := by
    simp only [outOk, Bool.and_eq_true]
    exact ⟨h0.1, inB_iff.2 ⟨by omega, by omega⟩⟩
  refine ⟨h1, fun j hj => hasI_of ?_⟩
  have hm : (outV gg kk i (lim + 1))[j]?.getD 0 ∈ outV gg kk i (lim + 1) := getD_mem 0 _ j hj
  generalize (outV gg kk i (lim + 1))[j]?.getD 0 = x at hm
  unfold outV at *
  rw [if_pos h1] at hm
  rw [if_pos h]
  unfold pickN at *
  simp only [List.mem_map, List.mem_filter, List.mem_range] at *
  obtain ⟨q, ⟨hq1, hq2⟩, rfl⟩ := hm
  refine ⟨q, ⟨hq1, ?_⟩, rfl⟩
  unfold outP at *
  simp only [decide_eq_true_eq] at *
  have hle : ((rowOf gg i.toNat).length : Int) * lim ≤ (rowOf gg i.toNat).length * (lim + 1) := by rw [Int.mul_add]; omega
  omega
/-- The least and the greatest mark so far. -/
def loTo (l : List Int) : Nat → Int
  | 0 => 5
  | k + 1 => if l[k]?.getD 0 < loTo l k then l[k]?.getD 0 else loTo l k
def hiTo (l : List Int) : Nat → Int
  | 0 => -5
  | k + 1 => if hiTo l k < l[k]?.getD 0 then l[k]?.getD 0 else hiTo l k
theorem loTo_le {l : List Int} : ∀ (n : Nat) (j : Nat), j < n → loTo l n ≤ l[j]?.getD 0
  | 0, j, h => by omega
  | n + 1, j, h => by
    have ih := loTo_le (l := l) n
    unfold loTo
    by_cases e : j = n
    · subst e; split <;> omega
    · have := ih j (by omega); split <;> omega
theorem le_hiTo {l : List Int} : ∀ (n : Nat) (j : Nat), j < n → l[j]?.getD 0 ≤ hiTo l n
  | 0, j, h => by omega
  | n + 1, j, h => by
    have ih := le_hiTo (l := l) n
    unfold hiTo
    by_cases e : j = n
    · subst e; split <;> omega
    · have := ih j (by omega); split <;> omega
theorem loTo_ge {l : List Int} {x : Int} (h5 : x ≤ 5) : ∀ n : Nat, (∀ j, j < n → x ≤ l[j]?.getD 0) → x ≤ loTo l n
  | 0, _ => h5
  | n + 1, h => by
    have ih := loTo_ge (l := l) h5 n (fun j hj => h j (by omega))
    have h2 := h n (by omega)
    unfold loTo; split <;> omega
theorem hiTo_le {l : List Int} {x : Int} (h5 : -5 ≤ x) : ∀ n : Nat, (∀ j, j < n → l[j]?.getD 0 ≤ x) → hiTo l n ≤ x
  | 0, _ => h5
  | n + 1, h => by
    have ih := hiTo_le (l := l) h5 n (fun j hj => h j (by omega))
    have h2 := h n (by omega)
    unfold hiTo; split <;> omega
theorem loTo_bd {l : List Int} (hb : ∀ x ∈ l, -5 ≤ x ∧ x ≤ 5) (n : Nat) (hn : n ≤ l.length) : -5 ≤ loTo l n ∧ loTo l n ≤ 5 := by
  refine ⟨loTo_ge (by omega) n fun j hj => (hb _ (getD_mem 0 l j (by omega))).1, ?_⟩
  clear hb hn
  induction n with
  | zero => exact Int.le_refl _
  | succ n ih => unfold loTo; split <;> omega
theorem hiTo_bd {l : List Int} (hb : ∀ x ∈ l, -5 ≤ x ∧ x ≤ 5) (n : Nat) (hn : n ≤ l.length) : -5 ≤ hiTo l n ∧ hiTo l n ≤ 5 := by
  refine ⟨?_, hiTo_le (by omega) n fun j hj => (hb _ (getD_mem 0 l j (by omega))).2⟩
  clear hb hn
  induction n with
  | zero => exact Int.le_refl _
  | succ n ih => unfold hiTo; split <;> omega
theorem mem_getD {l : List Int} {x : Int} (h : x ∈ l) : ∃ j, j < l.length ∧ l[j]?.getD 0 = x := by
  obtain ⟨j, hj, e⟩ := List.getElem_of_mem h
  exact ⟨j, hj, by simp [hj, e]⟩
theorem loTo_min {l : List Int} (hb : ∀ x ∈ l, -5 ≤ x ∧ x ≤ 5) (h0 : 0 < l.length) : loTo l l.length = Lib.minOf l ∧ hiTo l l.length = Lib.maxOf l := by
  obtain ⟨a1, a2⟩ := minOf_mem h0
  obtain ⟨b1, b2⟩ := maxOf_mem h0
  obtain ⟨j1, q1, e1⟩ := mem_getD a1
  obtain ⟨j2, q2, e2⟩ := mem_getD b1
  have h1 := loTo_le (l := l) l.length j1 q1
  have h2 := le_hiTo (l := l) l.length j2 q2
  have h3 := loTo_ge (l := l) (x := Lib.minOf l) (hb _ a1).2 l.length fun j hj => a2 _ (getD_mem 0 l j hj)
  have h4 := hiTo_le (l := l) (x := Lib.maxOf l) (hb _ b1).1 l.length fun j hj => b2 _ (getD_mem 0 l j hj)
  omega
/-- An item's range and median beside its least and greatest mark. -/
theorem item_facts {gg kk : List (List Int)} (h : marksB gg kk = true) {i : Nat} (hi : i < gg.length) :
    (rangesV gg kk)[i]?.getD 0 = hiTo (rowOf gg i) (judgesN kk) - loTo (rowOf gg i) (judgesN kk) ∧ 2 * loTo (rowOf gg i) (judgesN kk) ≤ (mediansV gg kk)[i]?.getD 0 ∧ (mediansV gg kk)[i]?.getD 0 ≤ 2 * hiTo (rowOf gg i) (judgesN kk) ∧ (rowOf gg i).length = judgesN kk ∧ (3 ≤ judgesN kk ∧ judgesN kk ≤ 9) ∧ ∀ x ∈ rowOf gg i, -5 ≤ x ∧ x ≤ 5 := by
  obtain ⟨_, h14, hj, hr⟩ := marksB_of h
  obtain ⟨q1, q2⟩ := hr i hi
  have hlen : (rowOf gg i).length = judgesN kk := q1
  obtain ⟨m1, m2⟩ := loTo_min (l := rowOf gg i) q2 (by omega)
  have e1 : (rangesV gg kk)[i]?.getD 0 = rangeI (rowOf gg i) := by simp [rangesV, h, hi, rowOf]
  have e2 : (mediansV gg kk)[i]?.getD 0 = medI (rowOf gg i) := by simp [mediansV, h, hi, rowOf]
  have hp : ∀ k, k < (rowOf gg i).length → loTo (rowOf gg i) (rowOf gg i).length ≤ (sortI (rowOf gg i))[k]?.getD 0 ∧ (sortI (rowOf gg i))[k]?.getD 0 ≤ hiTo (rowOf gg i) (rowOf gg i).length := fun k hk => by
    refine sortI_bd (fun x hx => ?_) k hk
    obtain ⟨j, hj, e⟩ := mem_getD hx
    have a1 := loTo_le (l := rowOf gg i) _ j hj
    have a2 := le_hiTo (l := rowOf gg i) _ j hj
    rw [e] at a1 a2
    exact ⟨a1, a2⟩
  have p1 := hp (((rowOf gg i).length - 1) / 2) (by omega)
  have p2 := hp ((rowOf gg i).length / 2) (by omega)
  rw [e1, e2, rangeI_eq (by omega), ← hlen]
  refine ⟨by omega, ?_, ?_, rfl, by omega, q2⟩ <;> unfold medI <;> omega
end Go.Proofs.Ytpjaiihkgeabiaa
