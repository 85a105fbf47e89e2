/- Scores of components and items, deductions and the parts of a score; plain. Conditions: none. -/
import Derived.Test.YtfmidngndddfiaaGreatDoorZTrims
import Derived.Test.YtfmidngndddfiaaGreatDoorMarksP
import Derived.Test.YtfmidngndddfiaaGreatDoorSlip
set_option linter.unusedVariables false
set_option linter.unusedSimpArgs false
set_option maxRecDepth 100000
namespace Go.Proofs.YtfmidngndddfiaaGreatDoor
/-- The first k values of f. -/
def mapN (f : Nat → Int) (k : Nat) : List Int := (List.range k).map f
theorem mapN_len (f : Nat → Int) (k : Nat) : (mapN f k).length = k := by simp [mapN]
theorem mapN_succ (f : Nat → Int) (k : Nat) : mapN f (k + 1) = mapN f k ++ [f k] := by simp [mapN, List.range_succ]
theorem mapN_zero (f : Nat → Int) : mapN f 0 = [] := rfl
theorem mapN_mem {f : Nat → Int} {k : Nat} {P : Int → Prop} (h : ∀ j, j < k → P (f j)) : ∀ x ∈ mapN f k, P x := by
  intro x hx
  obtain ⟨j, hj, rfl⟩ := List.mem_map.1 hx
  exact h j (by simpa using hj)
theorem mapN_get {f : Nat → Int} {n k : Nat} (h : k < n) : (mapN f n)[k]?.getD 0 = f k := by simp [mapN, h]
def sumN (f : Nat → Int) (k : Nat) : Int := (mapN f k).sum
theorem sumN_zero (f : Nat → Int) : sumN f 0 = 0 := rfl
theorem sumN_succ (f : Nat → Int) (k : Nat) : sumN f (k + 1) = sumN f k + f k := by simp [sumN, mapN_succ]
theorem sumN_to (f : Nat → Int) (k : Nat) : sumTo (mapN f k) k = sumN f k := by
  rw [sumTo, List.take_of_length_le (by rw [mapN_len]; omega)]; rfl
theorem sumN_bd {f : Nat → Int} {c : Int} (k : Nat) (h : ∀ j, j < k → -c ≤ f j ∧ f j ≤ c) : -(c * k) ≤ sumN f k ∧ sumN f k ≤ c * k := by
  induction k with
  | zero => simp [sumN_zero]
  | succ k ih =>
    have := ih fun j hj => h j (by omega)
    have := h k (by omega)
    rw [sumN_succ, Int.natCast_succ, Int.mul_add, Int.mul_one]
    omega
/-- A row of component marks. -/
def KrG (l : List Int) : Prop := (3 ≤ l.length ∧ l.length ≤ 9) ∧ ∀ x ∈ l, 0 ≤ x ∧ x ≤ 1000
theorem kRow_of {gg kk : List (List Int)} (h : marksB gg kk = true) {k : Nat} (hk : k < kk.length) : KrG (kk[k]?.getD []) := by
  have hm := marksB_of h
  simp only [marksB, Bool.and_eq_true] at h
  have hc := h.2.1.2
  have := List.all_eq_true.1 hc _ (getD_mem [] kk k hk)
  simp only [cRowB, Bool.and_eq_true, decide_eq_true_eq] at this
  refine ⟨by rw [this.1]; exact hm.2.2.1, fun x hx => ?_⟩
  have := List.all_eq_true.1 this.2 x hx
  simp only [compB, Bool.and_eq_true] at this
  exact inB_iff.1 this.1
/-- The score of a component. -/
def cmV (l : List Int) : Int := roundV (trimS l) (trimN l : Nat)
theorem cm_trim {l : List Int} (h : KrG l) : (-11000 ≤ trimS l ∧ trimS l ≤ 11000) ∧ 3 ≤ trimN l ∧ trimN l ≤ 7 := by
  have h1 := trimS_bd (c := 1000) (by omega) (by have := h.1; omega) h.1.2 (fun x hx => by have := h.2 x hx; omega)
  exact ⟨by omega, trimN_bd h.1.1 h.1.2⟩
theorem cmV_bd {l : List Int} (h : KrG l) : -22007 ≤ cmV l ∧ cmV l ≤ 22007 := by
  have h1 := cm_trim h
  have := round_bd (a := trimS l) (b := (trimN l : Nat)) (A := 11000) (B := 7) (by omega) (by omega) (by omega) (by omega) (by omega)
  unfold cmV
  omega
def cmAt (kk : List (List Int)) (k : Nat) : Int := cmV (kk[k]?.getD [])
def ceilV (falls : Int) : Int := if falls = 0 then 1000 else if falls = 1 then 950 else 900
theorem ceilV_bd (falls : Int) : 900 ≤ ceilV falls ∧ ceilV falls ≤ 1000 := by unfold ceilV; split; omega; split <;> omega
def capAt (kk : List (List Int)) (most : Int) (k : Nat) : Int := min (cmAt kk k) most
theorem capAt_bd {kk : List (List Int)} {most : Int} {k : Nat} (h : KrG (kk[k]?.getD [])) (hm : 900 ≤ most ∧ most ≤ 1000) : -22007 ≤ capAt kk most k ∧ capAt kk most k ≤ 22007 := by
  have := cmV_bd h
  unfold capAt cmAt
  omega
def capV (kk : List (List Int)) (falls : Int) : Int := sumN (capAt kk (ceilV falls)) 3
theorem capV_bd {gg kk : List (List Int)} {falls : Int} (h : marksB gg kk = true) : -66021 ≤ capV kk falls ∧ capV kk falls ≤ 66021 := by
  have := sumN_bd (f := capAt kk (ceilV falls)) (c := 22007) 3 (fun j hj => capAt_bd (kRow_of h (by have := (marksB_of h).1; omega)) (ceilV_bd falls))
  unfold capV
  omega
def facV (kk : List (List Int)) (factor falls : Int) : Int := roundV (capV kk falls * factor) 100
theorem cap_mul {gg kk : List (List Int)} {factor falls : Int} (h : marksB gg kk = true) (hf : 10 ≤ factor ∧ factor ≤ 400) : -26408400 ≤ capV kk falls * factor ∧ capV kk falls * factor ≤ 26408400 := by
  have h1 := capV_bd (falls := falls) h
  have := mul_bd (A := 66021) (B := 400) (a := capV kk falls) (b := factor) (by omega) (by omega) (by omega) (by omega)
  omega
theorem facV_bd {gg kk : List (List Int)} {factor falls : Int} (h : marksB gg kk = true) (hf : 10 ≤ factor ∧ factor ≤ 400) : -52816900 ≤ facV kk factor falls ∧ facV kk factor falls ≤ 52816900 := by
  have h1 := cap_mul (falls := falls) h hf
  have := round_bd (a := capV kk falls * factor) (b := 100) (A := 26408400) (B := 100) (by omega) (by omega) (by omega) (by omega) (by omega)
  unfold facV
  omega
/-- Deductions. -/
def fallMul (falls : Int) : Int := falls + max (falls - 2) 0 + max (falls - 4) 0
def fallV (fall falls : Int) : Int := fall * fallMul falls
def fallAt (fall : Int) (k : Nat) : Int := fall * min 3 ((k : Int) / 2 + 1)
theorem fallMul_succ (k : Nat) : fallMul ((k : Int) + 1) = fallMul k + min 3 ((k : Int) / 2 + 1) := by unfold fallMul; omega
theorem fall_sum (fall : Int) (k : Nat) : sumN (fallAt fall) k = fallV fall k := by
  induction k with
  | zero => rw [sumN_zero, fallV, show fallMul ((0 : Nat) : Int) = 0 by unfold fallMul; omega, Int.mul_zero]
  | succ k ih => rw [sumN_succ, ih, fallV, fallV, fallAt, Int.natCast_succ, fallMul_succ, Int.mul_add]
theorem fallMul_bd {falls : Int} (h : 0 ≤ falls ∧ falls ≤ 9) : 0 ≤ fallMul falls ∧ fallMul falls ≤ 21 := by unfold fallMul; omega
theorem fallV_bd {fall falls : Int} (hf : 0 ≤ fall ∧ fall ≤ 500) (h : 0 ≤ falls ∧ falls ≤ 9) : -10500 ≤ fallV fall falls ∧ fallV fall falls ≤ 10500 := by
  have h1 := fallMul_bd h
  have := mul_bd (A := 500) (B := 21) (a := fall) (b := fallMul falls) (by omega) (by omega) (by omega) (by omega)
  unfold fallV
  omega
def timeV (s : Int) : Int := (s + 4) / 5 * 100
theorem timeV_bd {s : Int} (h : 0 ≤ s ∧ s ≤ 60) : 0 ≤ timeV s ∧ timeV s ≤ 1200 := by
  unfold timeV
  omega
def dedV (fall s1 s2 s3 : Int) : Int := fallV fall s1 + timeV s2 + s3
theorem slip_of {a b c : Int} (h : slipB a b c = true) : (0 ≤ a ∧ a ≤ 9) ∧ (0 ≤ b ∧ b ≤ 60) ∧ 0 ≤ c ∧ c ≤ 500 := by
  simp only [slipB, Bool.and_eq_true] at h
  exact ⟨inB_iff.1 h.1, inB_iff.1 h.2.1, inB_iff.1 h.2.2⟩
theorem dedV_bd {fall a b c : Int} (hf : 0 ≤ fall ∧ fall ≤ 500) (h : slipB a b c = true) : -12200 ≤ dedV fall a b c ∧ dedV fall a b c ≤ 12200 := by
  have hs := slip_of h
  have h1 := fallV_bd hf hs.1
  have h2 := timeV_bd hs.2.1
  unfold dedV
  omega
theorem round_bd2 {a b : Int} (hb : 30 ≤ b) (h1 : -110000 ≤ a) (h2 : a ≤ 110000) : -5000 ≤ roundV a b ∧ roundV a b ≤ 5000 := by
  unfold roundV
  have e := Int.mul_ediv_add_emod (2 * a + b) (2 * b)
  have m0 := Int.emod_nonneg (2 * a + b) (show 2 * b ≠ 0 by omega)
  have m1 := Int.emod_lt_of_pos (2 * a + b) (show 0 < 2 * b by omega)
  generalize (2 * a + b) % (2 * b) = r at *
  generalize (2 * a + b) / (2 * b) = v at *
  constructor
  · apply Int.le_of_not_gt
    intro h
    have : 2 * b * v ≤ 2 * b * (-5001) := Int.mul_le_mul_of_nonneg_left (by omega) (by omega)
    omega
  · apply Int.le_of_not_gt
    intro h
    have : 2 * b * 5001 ≤ 2 * b * v := Int.mul_le_mul_of_nonneg_left (by omega) (by omega)
    omega
theorem pts_bd2 {els : List El} {q0 q1 q2 : Int} {its : List It} {k : Nat} {g : List Int} (hc : CodeG els q0 q1 q2) (hi : ItG els (its[k]?.getD zIt)) (hg : GrG g) : -5000 ≤ ptsV els q0 q1 q2 its k g ∧ ptsV els q0 q1 q2 its k g ≤ 5000 := by
  have h1 := pts_mul hc hi hg
  have h2 := trimN_bd hg.1.1 hg.1.2
  unfold ptsV
  split
  · omega
  · exact round_bd2 (by omega) h1.1 h1.2
/-- Scores of items. -/
def scAt (els : List El) (q0 q1 q2 : Int) (its : List It) (gg : List (List Int)) (k : Nat) : Int := baseV els q0 q1 q2 its k + ptsV els q0 q1 q2 its k (gg[k]?.getD [])
theorem scAt_bd {els : List El} {q0 q1 q2 : Int} {its : List It} {gg : List (List Int)} {k : Nat} (hc : CodeG els q0 q1 q2) (hi : ItG els (its[k]?.getD zIt)) (hg : GrG (gg[k]?.getD [])) : -20000 ≤ scAt els q0 q1 q2 its gg k ∧ scAt els q0 q1 q2 its gg k ≤ 20000 := by
  have h1 := base_bd (its := its) (k := k) hc hi
  have h2 := pts_bd2 (its := its) (k := k) hc hi hg
  unfold scAt
  omega
def techV (els : List El) (q0 q1 q2 : Int) (its : List It) (gg : List (List Int)) : Int := sumN (scAt els q0 q1 q2 its gg) its.length
theorem techV_bd {els : List El} {q0 q1 q2 : Int} {its : List It} {gg : List (List Int)} (hc : CodeG els q0 q1 q2) (hi : ∀ j, j < its.length → ItG els (its[j]?.getD zIt)) (hg : ∀ j, j < gg.length → GrG (gg[j]?.getD [])) (hl : gg.length = its.length) (h14 : its.length ≤ 14) : -280000 ≤ techV els q0 q1 q2 its gg ∧ techV els q0 q1 q2 its gg ≤ 280000 := by
  have := sumN_bd (f := scAt els q0 q1 q2 its gg) (c := 20000) its.length (fun j hj => scAt_bd hc (hi j hj) (hg j (by omega)))
  unfold techV
  omega
/-- The parts of a score. -/
def partsV (t f d : Int) : List Int := [t, f, d, max (t + f - d) 0]
def partsP (els : List El) (q0 q1 q2 q3 : Int) (its : List It) (gg kk : List (List Int)) (s1 s2 s3 factor : Int) : List Int :=
  partsV (techV els q0 q1 q2 its gg) (facV kk factor s1) (dedV q3 s1 s2 s3)
end Go.Proofs.YtfmidngndddfiaaGreatDoor
