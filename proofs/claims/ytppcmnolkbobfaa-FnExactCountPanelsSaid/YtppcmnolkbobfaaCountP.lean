/- Plain: subsets counted one by one against a product of polynomials with binomial coefficients. Conditions: none. -/
import Derived.Test.YtppcmnolkbobfaaPlain
set_option linter.unusedVariables false
set_option linter.unusedSimpArgs false
set_option maxRecDepth 100000
namespace Go.Proofs.Ytppcmnolkbobfaa
def sumTo (h : Nat → Nat) : Nat → Nat
  | 0 => 0
  | n + 1 => sumTo h n + h n
theorem sumTo_add (g h : Nat → Nat) (n : Nat) : sumTo (fun k => g k + h k) n = sumTo g n + sumTo h n := by
  induction n with
  | zero => rfl
  | succ n ih => simp only [sumTo, ih]; omega
theorem sumTo_congr {g h : Nat → Nat} {n : Nat} (e : ∀ k, k < n → g k = h k) : sumTo g n = sumTo h n := by
  induction n with
  | zero => rfl
  | succ n ih => simp only [sumTo]; rw [ih (fun k hk => e k (by omega)), e n (by omega)]
theorem sumTo_head (h : Nat → Nat) (n : Nat) : sumTo h (n + 1) = h 0 + sumTo (fun k => h (k + 1)) n := by
  induction n with
  | zero => simp [sumTo]
  | succ n ih => rw [sumTo, ih]; simp only [sumTo]; omega
theorem sumTo_le {h : Nat → Nat} {n B : Nat} (e : ∀ k, k < n → h k ≤ B) : sumTo h n ≤ n * B := by
  induction n with
  | zero => simp [sumTo]
  | succ n ih =>
    have h1 := ih (fun k hk => e k (by omega))
    have h2 := e n (by omega)
    rw [sumTo, Nat.add_mul]; omega
def conv (f g : Nat → Nat) (n : Nat) : Nat := sumTo (fun j => f j * g (n - j)) (n + 1)
def sh (g : Nat → Nat) : Nat → Nat
  | 0 => 0
  | n + 1 => g n
theorem conv_addL (f f' g : Nat → Nat) (n : Nat) : conv (fun n => f n + f' n) g n = conv f g n + conv f' g n := by
  unfold conv
  rw [← sumTo_add]
  exact sumTo_congr (fun k _ => Nat.add_mul _ _ _)
theorem conv_addR (f g g' : Nat → Nat) (n : Nat) : conv f (fun n => g n + g' n) n = conv f g n + conv f g' n := by
  unfold conv
  rw [← sumTo_add]
  exact sumTo_congr (fun k _ => Nat.mul_add _ _ _)
theorem conv_shL (f g : Nat → Nat) (n : Nat) : conv (sh f) g n = sh (conv f g) n := by
  cases n with
  | zero => simp [conv, sumTo, sh]
  | succ n =>
    show sumTo (fun j => sh f j * g (n + 1 - j)) (n + 1 + 1) = conv f g n
    rw [sumTo_head]
    simp only [sh, Nat.zero_mul, Nat.zero_add]
    exact sumTo_congr (fun k _ => by rw [Nat.add_sub_add_right])
theorem conv_shR (f g : Nat → Nat) (n : Nat) : conv f (sh g) n = sh (conv f g) n := by
  cases n with
  | zero => simp [conv, sumTo, sh]
  | succ n =>
    show sumTo (fun j => f j * sh g (n + 1 - j)) (n + 1) + f (n + 1) * sh g (n + 1 - (n + 1)) = conv f g n
    rw [Nat.sub_self]
    simp only [sh, Nat.mul_zero, Nat.add_zero]
    exact sumTo_congr (fun k hk => by rw [show n + 1 - k = (n - k) + 1 by omega])
theorem conv_congr {f f' g g' : Nat → Nat} (h : ∀ k, f k = f' k) (h' : ∀ k, g k = g' k) (n : Nat) : conv f g n = conv f' g' n := by
  unfold conv
  exact sumTo_congr (fun k _ => by rw [h, h'])
def ch : Nat → Nat → Nat
  | _, 0 => 1
  | 0, _ + 1 => 0
  | n + 1, k + 1 => ch n k + ch n (k + 1)
theorem ch_zero (n : Nat) : ch n 0 = 1 := by cases n <;> rfl
theorem ch_big {n k : Nat} (h : n < k) : ch n k = 0 := by
  induction n generalizing k with
  | zero => cases k with
    | zero => omega
    | succ k => rfl
  | succ n ih => cases k with
    | zero => omega
    | succ k => rw [ch, ih (by omega), ih (by omega)]
theorem ch_le (n k : Nat) : ch n k ≤ 2 ^ n := by
  induction n generalizing k with
  | zero => cases k <;> simp [ch]
  | succ n ih => cases k with
    | zero => rw [ch_zero]; exact Nat.one_le_two_pow
    | succ k => have h1 := ih k; have h2 := ih (k + 1); rw [ch, Nat.pow_succ]; omega
theorem ch_step (n k : Nat) : ch n (k + 1) * (k + 1) = ch n k * (n - k) := by
  induction n generalizing k with
  | zero => simp [ch]
  | succ n ih =>
    cases k with
    | zero =>
      have h := ih 0
      show (ch n 0 + ch n (0 + 1)) * (0 + 1) = ch (n + 1) 0 * (n + 1 - 0)
      rw [ch_zero] at h
      rw [ch_zero, ch_zero]
      simp only [Nat.zero_add, Nat.mul_one, Nat.one_mul] at h ⊢
      omega
    | succ k =>
      have h1 := ih k
      have h2 := ih (k + 1)
      rw [ch, ch]
      by_cases hk : k < n
      · obtain ⟨d, rfl⟩ : ∃ d, n = k + 1 + d := ⟨n - k - 1, by omega⟩
        rw [show k + 1 + d - k = d + 1 by omega] at h1
        rw [show k + 1 + d - (k + 1) = d by omega] at h2
        rw [show k + 1 + d + 1 - (k + 1) = d + 1 by omega]
        generalize ch (k + 1 + d) k = a at *
        generalize ch (k + 1 + d) (k + 1) = b at *
        generalize ch (k + 1 + d) (k + 1 + 1) = c at *
        simp only [Nat.add_mul, Nat.mul_add, Nat.mul_one, Nat.one_mul] at *
        omega
      · rw [ch_big (show n < k + 1 by omega), ch_big (show n < k + 1 + 1 by omega), show n + 1 - (k + 1) = 0 by omega]
        simp
theorem ch_next {n k : Nat} : ch n k * (n - k) / (k + 1) = ch n (k + 1) := by
  rw [← ch_step, Nat.mul_div_cancel _ (by omega)]
def pc (s cap k : Nat) : Nat := if k ≤ cap then ch s k else 0
theorem pc_up0 (s k : Nat) : pc (s + 1) 0 k = pc s 0 k := by
  unfold pc
  by_cases h : k ≤ 0
  · rw [if_pos h, if_pos h, Nat.le_zero.1 h, ch_zero, ch_zero]
  · rw [if_neg h, if_neg h]
theorem pc_up (s cap k : Nat) : pc (s + 1) (cap + 1) k = pc s (cap + 1) k + sh (pc s cap) k := by
  cases k with
  | zero => simp [pc, sh, ch_zero]
  | succ k =>
    unfold pc
    by_cases h : k ≤ cap
    · rw [if_pos (by omega), if_pos (by omega), sh, if_pos h, ch]; omega
    · rw [if_neg (by omega), if_neg (by omega), sh, if_neg h]
def HH (sz cap : Nat → Nat) : Nat → Nat → Nat
  | 0 => fun n => if n = 0 then 1 else 0
  | j + 1 => conv (HH sz cap j) (pc (sz j) (cap j))
def up (sz : Nat → Nat) (c : Nat) : Nat → Nat := fun i => if i = c then sz i + 1 else sz i
def dn (cap : Nat → Nat) (c : Nat) : Nat → Nat := fun i => if i = c then cap i - 1 else cap i
theorem HH_congr {sz sz' cap cap' : Nat → Nat} {j : Nat} (h : ∀ i, i < j → sz i = sz' i) (h' : ∀ i, i < j → cap i = cap' i) (n : Nat) : HH sz cap j n = HH sz' cap' j n := by
  induction j generalizing n with
  | zero => rfl
  | succ j ih =>
    simp only [HH]
    rw [h j (by omega), h' j (by omega)]
    exact conv_congr (fun k => ih (fun i hi => h i (by omega)) (fun i hi => h' i (by omega)) k) (fun _ => rfl) n
theorem HH_far (sz cap : Nat → Nat) (c j n : Nat) (h : j ≤ c) : HH (up sz c) cap j n = HH sz cap j n :=
  HH_congr (fun i hi => by unfold up; rw [if_neg (by omega)]) (fun _ _ => rfl) n
theorem HH_up0 (sz cap : Nat → Nat) (c j n : Nat) (h : cap c = 0) : HH (up sz c) cap j n = HH sz cap j n := by
  induction j generalizing n with
  | zero => rfl
  | succ j ih =>
    simp only [HH]
    refine conv_congr ih (fun k => ?_) n
    unfold up
    by_cases e : j = c
    · subst e; rw [if_pos rfl, h, pc_up0]
    · rw [if_neg e]
theorem HH_up (sz cap : Nat → Nat) (c j n : Nat) (h : 0 < cap c) (hj : c < j) : HH (up sz c) cap j n = HH sz cap j n + sh (HH sz (dn cap c) j) n := by
  induction j generalizing n with
  | zero => omega
  | succ j ih =>
    simp only [HH]
    by_cases e : c = j
    · subst e
      obtain ⟨d, hd⟩ : ∃ d, cap c = d + 1 := ⟨cap c - 1, by omega⟩
      have e1 : up sz c c = sz c + 1 := if_pos rfl
      have e2 : dn cap c c = d := by unfold dn; rw [if_pos rfl, hd]; rfl
      rw [e1, e2, hd, ← conv_shR, ← conv_congr (f := HH sz cap c) (g := sh (pc (sz c) d)) (fun k => HH_congr (fun _ _ => rfl) (fun i hi => by unfold dn; rw [if_neg (by omega)]) k) (fun _ => rfl), ← conv_addR]
      exact conv_congr (fun k => HH_far _ _ _ _ _ (Nat.le_refl _)) (fun k => pc_up _ _ _) n
    · have e1 : up sz c j = sz j := if_neg (by omega)
      have e2 : dn cap c j = cap j := if_neg (by omega)
      rw [e1, e2, ← conv_shL, ← conv_addL]
      exact conv_congr (fun k => ih k (by omega)) (fun _ => rfl) n
theorem HH_none (cap : Nat → Nat) (j n : Nat) : HH (fun _ => 0) cap j n = if n = 0 then 1 else 0 := by
  induction j generalizing n with
  | zero => rfl
  | succ j ih =>
    simp only [HH]
    rw [conv, sumTo, Nat.sub_self, ih]
    have e : sumTo (fun i => HH (fun _ => 0) cap j i * pc 0 (cap j) (n - i)) n = 0 := by
      have : sumTo (fun i => HH (fun _ => 0) cap j i * pc 0 (cap j) (n - i)) n = sumTo (fun _ => 0) n := sumTo_congr (fun k hk => by
        obtain ⟨m, hm⟩ : ∃ m, n - k = m + 1 := ⟨n - k - 1, by omega⟩
        rw [hm, pc, show ch 0 (m + 1) = 0 from rfl, ite_self, Nat.mul_zero])
      rw [this]
      clear this
      induction n with
      | zero => rfl
      | succ n ih => simp only [sumTo]; rw [ih]
    rw [e, pc, if_pos (Nat.zero_le _), ch_zero]; omega
def szf (L : List Nat) : Nat → Nat := fun c => L.count c
theorem szf_snoc (L : List Nat) (x : Nat) : szf (L ++ [x]) = up (szf L) x := by
  funext c
  simp only [szf, up, List.count_append, List.count_singleton]
  by_cases e : c = x
  · subst e; simp
  · have : (x == c) = false := by simpa using fun h : x = c => e h.symm
    rw [if_neg e]; simp [this]
def goodB (cap : Nat → Nat) (n : Nat) (P : List Nat) : Bool := P.length == n && P.all fun c => decide (P.count c ≤ cap c)
theorem goodB_iff {cap : Nat → Nat} {n : Nat} {P : List Nat} : goodB cap n P = true ↔ P.length = n ∧ ∀ c ∈ P, P.count c ≤ cap c := by
  simp [goodB]
theorem goodB_snoc (cap : Nat → Nat) (n : Nat) (P : List Nat) (x : Nat) : goodB cap (n + 1) (P ++ [x]) = (decide (0 < cap x) && goodB (dn cap x) n P) := by
  rw [Bool.eq_iff_iff, Bool.and_eq_true, goodB_iff, goodB_iff, decide_eq_true_iff]
  have hc : ∀ c, (P ++ [x]).count c = P.count c + if c = x then 1 else 0 := fun c => by
    rw [List.count_append, List.count_singleton]
    by_cases e : c = x
    · subst e; simp
    · have : (x == c) = false := by simpa using fun h : x = c => e h.symm
      rw [if_neg e]; simp [this]
  constructor
  · rintro ⟨h1, h2⟩
    have hx := h2 x (by simp)
    rw [hc, if_pos rfl] at hx
    refine ⟨by omega, by simpa using h1, fun c hcm => ?_⟩
    have h3 := h2 c (by simp [hcm])
    rw [hc] at h3
    unfold dn
    by_cases e : c = x
    · rw [if_pos e] at *; omega
    · rw [if_neg e] at *; omega
  · rintro ⟨h0, h1, h2⟩
    refine ⟨by simpa using h1, fun c hcm => ?_⟩
    rw [hc]
    by_cases e : c = x
    · rw [if_pos e]
      subst e
      by_cases hm : c ∈ P
      · have := h2 c hm
        unfold dn at this
        rw [if_pos rfl] at this
        omega
      · rw [List.count_eq_zero_of_not_mem hm]; omega
    · rw [if_neg e]
      have := h2 c (by simpa [e] using hcm)
      unfold dn at this
      rw [if_neg e] at this
      omega
theorem goodB_snoc0 (cap : Nat → Nat) (P : List Nat) (x : Nat) : goodB cap 0 (P ++ [x]) = false := by
  rw [Bool.eq_false_iff]
  intro h
  have := (goodB_iff.1 h).1
  simp at this
/-- The elements of L below index k whose bits in s are set. -/
def sel {α : Type} (d : α) (L : List α) (s : Nat) : Nat → List α
  | 0 => []
  | k + 1 => if s / 2 ^ k % 2 = 1 then sel d L s k ++ [L[k]?.getD d] else sel d L s k
theorem sel_map {α : Type} (d : α) (f : α → Nat) (L : List α) (s k : Nat) (hk : k ≤ L.length) (e : Nat) : (sel d L s k).map f = sel e (L.map f) s k := by
  induction k with
  | zero => rfl
  | succ k ih =>
    have hlt : k < L.length := by omega
    simp only [sel]
    by_cases h : s / 2 ^ k % 2 = 1
    · rw [if_pos h, if_pos h, List.map_append, ih (by omega)]; simp [hlt]
    · rw [if_neg h, if_neg h, ih (by omega)]
theorem sel_len {α : Type} (d : α) (L : List α) (s k : Nat) : (sel d L s k).length ≤ k := by
  induction k with
  | zero => simp [sel]
  | succ k ih =>
    simp only [sel]
    split
    · rw [List.length_append, List.length_singleton]; omega
    · omega
theorem sel_low {α : Type} (d : α) (L : List α) {s t k m : Nat} (hk : k ≤ m) (h : s % 2 ^ m = t % 2 ^ m) : sel d L s k = sel d L t k := by
  induction k with
  | zero => rfl
  | succ k ih =>
    have e : ∀ z : Nat, z / 2 ^ k % 2 = z % 2 ^ m / 2 ^ k % 2 := fun z => by
      obtain ⟨r, rfl⟩ : ∃ r, m = k + 1 + r := ⟨m - k - 1, by omega⟩
      rw [Nat.pow_add, Nat.pow_succ, Nat.mul_assoc, Nat.mod_mul_right_div_self, Nat.mod_mul_right_mod]
    simp only [sel]
    rw [ih (by omega), e s, e t, h]
theorem sel_no {α : Type} (d : α) (L : List α) {s m : Nat} (h : s < 2 ^ m) : sel d L s (m + 1) = sel d L s m := by
  rw [sel, if_neg]
  rw [Nat.div_eq_of_lt h]; omega
theorem sel_yes {α : Type} (d : α) (L : List α) {s m : Nat} (h : s < 2 ^ m) : sel d L (2 ^ m + s) (m + 1) = sel d L s m ++ [L[m]?.getD d] := by
  rw [sel, if_pos]
  · congr 1
    exact sel_low d L (Nat.le_refl _) (by simp)
  · rw [Nat.add_div_left _ (Nat.pos_of_ne_zero (by simp)), Nat.div_eq_of_lt h]
def cnt (P : Nat → Bool) : Nat → Nat
  | 0 => 0
  | k + 1 => cnt P k + if P k then 1 else 0
theorem cnt_congr {P Q : Nat → Bool} {n : Nat} (h : ∀ k, k < n → P k = Q k) : cnt P n = cnt Q n := by
  induction n with
  | zero => rfl
  | succ n ih => simp only [cnt]; rw [ih (fun k hk => h k (by omega)), h n (by omega)]
theorem cnt_add (P : Nat → Bool) (a b : Nat) : cnt P (a + b) = cnt P a + cnt (fun i => P (a + i)) b := by
  induction b with
  | zero => simp [cnt]
  | succ b ih => rw [← Nat.add_assoc]; simp only [cnt]; rw [ih]; omega
theorem cnt_no (n : Nat) : cnt (fun _ => false) n = 0 := by
  induction n with
  | zero => rfl
  | succ n ih => simp only [cnt]; rw [ih]; rfl
theorem cnt_le (P : Nat → Bool) (n : Nat) : cnt P n ≤ n := by
  induction n with
  | zero => simp [cnt]
  | succ n ih => simp only [cnt]; split <;> omega
theorem cnt_main (L : List Nat) (J : Nat) (hL : ∀ x ∈ L, x < J) (m : Nat) (hm : m ≤ L.length) (cap : Nat → Nat) (n : Nat) :
    cnt (fun s => goodB cap n (sel 0 L s m)) (2 ^ m) = HH (szf (L.take m)) cap J n := by
  induction m generalizing cap n with
  | zero =>
    have e : szf (L.take 0) = fun _ => 0 := by funext c; simp [szf]
    rw [e, HH_none]
    show (0 + if goodB cap n [] then 1 else 0) = _
    rw [Nat.zero_add]
    by_cases h : n = 0
    · subst h; rfl
    · have : goodB cap n [] = false := by rw [Bool.eq_false_iff]; intro hh; exact h ((goodB_iff.1 hh).1.symm)
      rw [this, if_neg h]; rfl
  | succ m ih =>
    have hx : L[m]?.getD 0 < J := hL _ (getD_mem 0 L m (by omega))
    rw [take_succ_getD 0 L m (by omega), szf_snoc]
    rw [Nat.pow_succ, Nat.mul_two, cnt_add]
    rw [cnt_congr (Q := fun s => goodB cap n (sel 0 L s m)) (fun k hk => by rw [sel_no 0 L hk]), ih (by omega)]
    rw [cnt_congr (P := fun i => goodB cap n (sel 0 L (2 ^ m + i) (m + 1))) (Q := fun s => goodB cap n (sel 0 L s m ++ [L[m]?.getD 0])) (fun k hk => by rw [sel_yes 0 L hk])]
    generalize L[m]?.getD 0 = x at *
    cases n with
    | zero =>
      rw [cnt_congr (Q := fun _ => false) (fun k _ => goodB_snoc0 _ _ _), cnt_no]
      rcases Nat.eq_zero_or_pos (cap x) with h | h
      · rw [HH_up0 _ _ _ _ _ h]; rfl
      · rw [HH_up _ _ _ _ _ h hx]; rfl
    | succ n =>
      rw [cnt_congr (P := fun s => goodB cap (n + 1) (sel 0 L s m ++ [x])) (Q := fun s => decide (0 < cap x) && goodB (dn cap x) n (sel 0 L s m)) (fun k _ => goodB_snoc _ _ _ _)]
      rcases Nat.eq_zero_or_pos (cap x) with h | h
      · rw [HH_up0 _ _ _ _ _ h, cnt_congr (Q := fun _ => false) (fun k _ => by simp [h]), cnt_no]; rfl
      · rw [HH_up _ _ _ _ _ h hx, cnt_congr (Q := fun s => goodB (dn cap x) n (sel 0 L s m)) (fun k _ => by simp [h]), ih (by omega)]; rfl
theorem HH_bd (L : List Nat) (m : Nat) (hm : m ≤ L.length) (cap : Nat → Nat) (j n : Nat) : HH (szf (L.take m)) cap j n ≤ 2 ^ m := by
  induction m generalizing cap n with
  | zero =>
    have e : szf (L.take 0) = fun _ => 0 := by funext c; simp [szf]
    rw [e, HH_none]; split <;> simp
  | succ m ih =>
    rw [take_succ_getD 0 L m (by omega), szf_snoc, Nat.pow_succ]
    generalize L[m]?.getD 0 = x at *
    have h1 := ih (by omega) cap n
    rcases Nat.eq_zero_or_pos (cap x) with h | h
    · rw [HH_up0 _ _ _ _ _ h]; omega
    · by_cases hx : x < j
      · rw [HH_up _ _ _ _ _ h hx]
        cases n with
        | zero => simp only [sh]; omega
        | succ n => have h2 := ih (by omega) (dn cap x) n; simp only [sh]; omega
      · rw [HH_far _ _ _ _ _ (by omega)]; omega
/-- The program's row under way: have-values below h done, and of h itself the first k. -/
def prt (f g : Nat → Nat) (h t : Nat) : Nat := sumTo (fun j => if j ≤ t then f j * g (t - j) else 0) h
theorem prt_end (f g : Nat → Nat) {h t : Nat} (ht : t < h) : prt f g h t = conv f g t := by
  unfold prt conv
  obtain ⟨d, rfl⟩ : ∃ d, h = t + 1 + d := ⟨h - t - 1, by omega⟩
  induction d with
  | zero => exact sumTo_congr (fun k hk => if_pos (by omega))
  | succ d ih => rw [← Nat.add_assoc, sumTo, ih (by omega), if_neg (by omega), Nat.add_zero]
def nxt (f g : Nat → Nat) (n h k : Nat) : List Int := (List.range (n + 1)).map fun t => ((prt f g h t + if h ≤ t ∧ t < h + k then f h * g (t - h) else 0 : Nat) : Int)
theorem nxt_len (f g : Nat → Nat) (n h k : Nat) : (nxt f g n h k).length = n + 1 := by simp [nxt]
theorem nxt_get (f g : Nat → Nat) (n h k t : Nat) (ht : t ≤ n) : (nxt f g n h k)[t]?.getD 0 = ((prt f g h t + if h ≤ t ∧ t < h + k then f h * g (t - h) else 0 : Nat) : Int) := by
  simp [nxt, show t < n + 1 by omega]
theorem nxt_zero (f g : Nat → Nat) (n : Nat) : nxt f g n 0 0 = List.replicate (n + 1) 0 := by
  unfold nxt
  rw [List.eq_replicate_iff]
  refine ⟨by simp, fun b hb => ?_⟩
  obtain ⟨t, _, rfl⟩ := List.mem_map.1 hb
  simp [prt, sumTo]
theorem nxt_step (f g : Nat → Nat) (n h k : Nat) (hk : h + k ≤ n) : (nxt f g n h k).set (h + k) ((nxt f g n h k)[h + k]?.getD 0 + ((f h * g k : Nat) : Int)) = nxt f g n h (k + 1) := by
  rw [nxt_get f g n h k (h + k) hk]
  apply List.ext_getElem (by simp [nxt])
  intro i h1 h2
  rw [List.getElem_set]
  simp only [nxt, List.getElem_map, List.getElem_range]
  by_cases e : h + k = i
  · subst e
    rw [if_pos rfl, if_neg (by omega), if_pos ⟨by omega, by omega⟩, show h + k - h = k by omega]
    push_cast; omega
  · rw [if_neg e]
    by_cases c : h ≤ i ∧ i < h + k
    · rw [if_pos c, if_pos ⟨c.1, by omega⟩]
    · rw [if_neg c, if_neg (by omega)]
theorem nxt_more (f g : Nat → Nat) (n h k : Nat) (hk : ∀ t, t ≤ n → h + k ≤ t → g (t - h) = 0) : nxt f g n h k = nxt f g n (h + 1) 0 := by
  unfold nxt
  apply List.map_congr_left
  intro t ht
  have ht : t < n + 1 := by simpa using ht
  congr 1
  rw [if_neg (show ¬ (h + 1 ≤ t ∧ t < h + 1 + 0) by omega), Nat.add_zero]
  show _ = prt f g h t + if h ≤ t then f h * g (t - h) else 0
  by_cases c : h ≤ t
  · rw [if_pos c]
    by_cases c2 : t < h + k
    · rw [if_pos ⟨c, c2⟩]
    · rw [if_neg (by omega), hk t (by omega) (by omega), Nat.mul_zero]
  · rw [if_neg (by omega), if_neg c]
def row (f : Nat → Nat) (n : Nat) : List Int := (List.range (n + 1)).map fun t => (f t : Int)
theorem row_get (f : Nat → Nat) (n t : Nat) (ht : t ≤ n) : (row f n)[t]?.getD 0 = (f t : Int) := by simp [row, show t < n + 1 by omega]
theorem row_len (f : Nat → Nat) (n : Nat) : (row f n).length = n + 1 := by simp [row]
theorem nxt_end (f g : Nat → Nat) (n : Nat) : nxt f g n (n + 1) 0 = row (conv f g) n := by
  unfold nxt row
  apply List.map_congr_left
  intro t ht
  have ht : t < n + 1 := by simpa using ht
  rw [if_neg (by omega), Nat.add_zero, prt_end f g ht]
theorem prt_bd {f g : Nat → Nat} {B : Nat} {h : Nat} (hb : ∀ j t, j < h → f j * g t ≤ B) (t : Nat) : prt f g h t ≤ h * B :=
  sumTo_le (fun j hj => by
    show (if j ≤ t then f j * g (t - j) else 0) ≤ B
    split
    · exact hb j _ hj
    · omega)
end Go.Proofs.Ytppcmnolkbobfaa
