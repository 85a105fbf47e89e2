/- Trimmed sums, sorting with the greatest first, and the unit of an item; plain. Conditions: none. -/
import Derived.Test.YtfmidngndddfiaaGreatDoorSortP
import Derived.Test.YtfmidngndddfiaaGreatDoorBaseQ
set_option linter.unusedVariables false
set_option linter.unusedSimpArgs false
set_option maxRecDepth 100000
namespace Go.Proofs.YtfmidngndddfiaaGreatDoor
def negL (l : List Int) : List Int := l.map fun x => -x
theorem negL_get (l : List Int) (j : Nat) : (negL l)[j]?.getD 0 = -(l[j]?.getD 0) := by
  unfold negL
  rw [List.getElem?_map]
  cases l[j]? <;> simp
theorem negL_neg (l : List Int) : negL (negL l) = l := by
  unfold negL
  rw [List.map_map]
  conv => rhs; rw [← List.map_id l]
  exact List.map_congr_left fun x _ => by simp
theorem negL_len (l : List Int) : (negL l).length = l.length := by simp [negL]
/-- The first k of a list, the greatest first. -/
def desTo (l : List Int) (k : Nat) : List Int := negL (isortTo (negL l) k)
def insD (out : List Int) (x : Int) (m : Nat) : Nat := insK (negL out) (-x) m
theorem insD_step {out : List Int} {x : Int} {k : Nat} (h : out[k]?.getD 0 < x) : insD out x (k + 1) = insD out x k := by
  unfold insD; exact insK_step (by rw [negL_get]; omega)
theorem insD_stop {out : List Int} {x : Int} {k : Nat} (h : ¬ out[k]?.getD 0 < x) : insD out x (k + 1) = k + 1 := by
  unfold insD; exact insK_stop (by rw [negL_get]; omega)
theorem desTo_len (l : List Int) (k : Nat) (h : k ≤ l.length) : (desTo l k).length = k := by
  unfold desTo; rw [negL_len, isortTo_len _ _ (by rw [negL_len]; exact h)]
def insDL (out : List Int) (x : Int) : List Int := out.take (insD out x out.length) ++ [x] ++ out.drop (insD out x out.length)
theorem desTo_succ (l : List Int) (k : Nat) (h : k < l.length) : desTo l (k + 1) = insDL (desTo l k) (l[k]?.getD 0) := by
  unfold insDL
  have e := isortTo_succ (negL l) k (by rw [negL_len]; exact h)
  unfold desTo
  rw [e, insI, negL_get]
  unfold insD
  rw [negL_neg, negL_len]
  generalize isortTo (negL l) k = o
  generalize insK o (-(l[k]?.getD 0)) o.length = m
  simp [negL, List.map_take, List.map_drop]
theorem minNeg {l : List Int} (h : 0 < l.length) : Lib.minOf (negL l) = -Lib.maxOf l := by
  have h1 := maxOf_mem h
  have h2 := minOf_mem (l := negL l) (by rw [negL_len]; exact h)
  have a := h2.2 (-Lib.maxOf l) (List.mem_map.2 ⟨_, h1.1, rfl⟩)
  obtain ⟨y, hy, e⟩ := List.mem_map.1 h2.1
  have b := h1.2 y hy
  omega
theorem maxNeg {l : List Int} (h : 0 < l.length) : Lib.maxOf (negL l) = -Lib.minOf l := by
  have h1 := minOf_mem h
  have h2 := maxOf_mem (l := negL l) (by rw [negL_len]; exact h)
  have a := h2.2 (-Lib.minOf l) (List.mem_map.2 ⟨_, h1.1, rfl⟩)
  obtain ⟨y, hy, e⟩ := List.mem_map.1 h2.1
  have b := h1.2 y hy
  omega
theorem desTo_first {l : List Int} (h : 0 < l.length) : (desTo l l.length)[0]?.getD 0 = Lib.maxOf l := by
  unfold desTo
  have e := isort_eq (negL l)
  rw [negL_len] at e
  rw [negL_get, e, sortI_first (by rw [negL_len]; exact h), minNeg h]
  omega
theorem desTo_last {l : List Int} (h : 0 < l.length) : (desTo l l.length)[l.length - 1]?.getD 0 = Lib.minOf l := by
  unfold desTo
  have e := isort_eq (negL l)
  rw [negL_len] at e
  have e2 := sortI_last (l := negL l) (by rw [negL_len]; exact h)
  rw [negL_len] at e2
  rw [negL_get, e, e2, maxNeg h]
  omega
/-- The sum of a row of marks without its extremes, and how many are left. -/
def trimS (l : List Int) : Int := if l.length < 5 then sumTo l l.length else sumTo l l.length - Lib.maxOf l - Lib.minOf l
def trimN (l : List Int) : Nat := if l.length < 5 then l.length else l.length - 2
theorem trimS_bd {l : List Int} {c : Int} (hc : 0 ≤ c) (h0 : 0 < l.length) (hl : l.length ≤ 9) (hb : ∀ x ∈ l, -c ≤ x ∧ x ≤ c) : -(c * 11) ≤ trimS l ∧ trimS l ≤ c * 11 := by
  have h1 := sumTo_bd hc hb l.length
  have m1 := hb _ (maxOf_mem h0).1
  have m2 := hb _ (minOf_mem h0).1
  have h3 : c * (l.length : Int) ≤ c * 9 := Int.mul_le_mul_of_nonneg_left (by omega) hc
  have h4 : c * 11 = c * 9 + c + c := by omega
  unfold trimS
  split <;> omega
theorem trimN_bd {l : List Int} (h0 : 3 ≤ l.length) (hl : l.length ≤ 9) : 3 ≤ trimN l ∧ trimN l ≤ 7 := by
  unfold trimN
  split <;> omega
theorem foldl_max0 {l : List Int} (h0 : 0 < l.length) (h : ∀ x ∈ l, 0 ≤ x) : l.foldl max 0 = Lib.maxOf l := by
  have h1 := foldl_max_spec l 0
  have h2 := maxOf_mem h0
  have a := h1.2.1 _ h2.1
  rcases h1.2.2 with e | e
  · have := h _ h2.1; omega
  · have := h2.2 _ e; omega
/-- The greatest worth of an item's names. -/
def uMost (els : List El) (keep : Int) (it : It) (k : Nat) : Int := (wTo els keep it k).foldl max 0
theorem uMost_succ (els : List El) (keep : Int) (it : It) (k : Nat) : uMost els keep it (k + 1) = max (uMost els keep it k) (wAt els keep (nmAt it k) (mkAt it k)) := by
  unfold uMost; rw [wTo_succ, List.foldl_append]; rfl
def unitV (els : List El) (keep : Int) (it : It) : Int := Lib.maxOf (wTo els keep it it.1.length)
theorem uMost_all {els : List El} {q0 q1 q2 : Int} {it : It} (hc : CodeG els q0 q1 q2) (hi : ItG els it) : uMost els q2 it it.1.length = unitV els q2 it := by
  unfold uMost unitV
  refine foldl_max0 (by rw [wTo_len]; exact hi.1.1) (fun x hx => ?_)
  exact (wTo_bd hc hi _ (Nat.le_refl _) x hx).1
theorem unit_bd {els : List El} {q0 q1 q2 : Int} {it : It} (hc : CodeG els q0 q1 q2) (hi : ItG els it) : 0 ≤ unitV els q2 it ∧ unitV els q2 it ≤ 2000 :=
  wTo_bd hc hi _ (Nat.le_refl _) _ (maxOf_mem (l := wTo els q2 it it.1.length) (by rw [wTo_len]; exact hi.1.1)).1
theorem uMost_bd {els : List El} {q0 q1 q2 : Int} {it : It} (hc : CodeG els q0 q1 q2) (hi : ItG els it) (k : Nat) (hk : k ≤ it.1.length) : 0 ≤ uMost els q2 it k ∧ uMost els q2 it k ≤ 2000 := by
  have h1 := foldl_max_spec (wTo els q2 it k) 0
  have hw := wTo_bd hc hi k hk
  unfold uMost
  refine ⟨h1.1, ?_⟩
  rcases h1.2.2 with e | e
  · rw [e]; omega
  · exact (hw _ e).2
/-- A row of judges' grades. -/
def GrG (g : List Int) : Prop := (3 ≤ g.length ∧ g.length ≤ 9) ∧ ∀ x ∈ g, -5 ≤ x ∧ x ≤ 5
/-- What an item's grades add to its base. -/
def ptsV (els : List El) (q0 q1 q2 : Int) (its : List It) (k : Nat) (g : List Int) : Int :=
  if baseV els q0 q1 q2 its k = 0 then 0 else roundV (trimS g * unitV els q2 (its[k]?.getD zIt)) (10 * (trimN g : Int))
theorem pts_mul {els : List El} {q0 q1 q2 : Int} {it : It} {g : List Int} (hc : CodeG els q0 q1 q2) (hi : ItG els it) (hg : GrG g) : -110000 ≤ trimS g * unitV els q2 it ∧ trimS g * unitV els q2 it ≤ 110000 := by
  have h1 := trimS_bd (c := 5) (by omega) (by have := hg.1; omega) hg.1.2 hg.2
  have h2 := unit_bd hc hi
  have := mul_bd (A := 55) (B := 2000) (a := trimS g) (b := unitV els q2 it) (by omega) (by omega) h2.1 h2.2
  omega
theorem round_bd {a b A B : Int} (hb : 0 < b) (hB : b ≤ B) (h1 : -A ≤ a) (h2 : a ≤ A) (hA : 0 ≤ A) : -(2 * A + B) ≤ roundV a b ∧ roundV a b ≤ 2 * A + B := by
  unfold roundV
  exact down_bd (by omega) (by omega) (by omega) (by omega)
theorem pts_bd {els : List El} {q0 q1 q2 : Int} {its : List It} {k : Nat} {g : List Int} (hc : CodeG els q0 q1 q2) (hi : ItG els (its[k]?.getD zIt)) (hg : GrG g) : -220100 ≤ ptsV els q0 q1 q2 its k g ∧ ptsV els q0 q1 q2 its k g ≤ 220100 := by
  have h1 := pts_mul hc hi hg
  have h2 := trimN_bd hg.1.1 hg.1.2
  unfold ptsV
  split
  · omega
  · have := round_bd (A := 110000) (B := 100) (show 0 < 10 * (trimN g : Int) by omega) (by omega) h1.1 h1.2 (by omega)
    omega
end Go.Proofs.YtfmidngndddfiaaGreatDoor
