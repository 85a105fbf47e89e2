/- Plain: how great slopes and biases grow. Conditions: none. -/
import Derived.Test.YtppcmnolkbobfaaDriftQ
set_option linter.unusedVariables false
set_option linter.unusedSimpArgs false
set_option maxRecDepth 100000
namespace Go.Proofs.Ytppcmnolkbobfaa
theorem low_bd {a b c d : Int} (hb : 0 < b) (h1 : -c ≤ a) (h2 : a ≤ c) (h3 : b ≤ d) : (-c ≤ lowA a b ∧ lowA a b ≤ c) ∧ 1 ≤ lowB a b ∧ lowB a b ≤ d := by
  have hg := gcdV_pos (a := a) hb
  have t1 := tdiv_bd a _ hg
  have t2 := tdiv_bd b _ hg
  have h4 := lowB_pos (a := a) hb
  unfold lowA lowB at *
  omega
theorem sl_bd {l : List Int} (h : slOk l = true) : (-100000000000 ≤ slA l ∧ slA l ≤ 100000000000) ∧ 1 ≤ slB l ∧ slB l ≤ 10000000 := by
  have h' := h
  simp only [slOk, Bool.and_eq_true, Bool.not_eq_true', decide_eq_false_iff_not] at h'
  obtain ⟨⟨p1, p2⟩, p3⟩ := serB_of h'.1
  rw [(sl_yes h).1, (sl_yes h).2]
  have f1 := pl_facts l.length (by omega)
  have f2 := prTo_bd (getD_bd p3) l.length (by omega)
  have f3 := sq_pos l.length (by omega) (by omega)
  have s1 := sumTo_bd (by omega) p3 l.length
  have m1 := mul_bdR (a := prTo l l.length) (b := l.length) (A := 360000000) (B := 60) (by omega) (by omega) (by omega) (by omega)
  have m2 := mul_bdR (a := sumTo l l.length) (b := plTo l.length) (A := 6000000) (B := 1770) (by omega) (by omega) (by omega) (by omega)
  refine low_bd f3.1 ?_ ?_ f3.2
  · unfold slT; omega
  · unfold slT; omega
theorem bias_bd {l r : List Int} (h : biasOk l r = true) : (-720000000 ≤ biasA l r ∧ biasA l r ≤ 720000000) ∧ 1 ≤ biasB l r ∧ biasB l r ≤ 3600 := by
  have h' := h
  simp only [biasOk, Bool.and_eq_true] at h'
  obtain ⟨⟨p1, p2⟩, p3⟩ := serB_of h'.1
  obtain ⟨⟨q1, q2⟩, q3⟩ := serB_of h'.2
  rw [(bias_yes h).1, (bias_yes h).2]
  have s1 := sumTo_bd (by omega) p3 l.length
  have s2 := sumTo_bd (by omega) q3 r.length
  have m1 := mul_bd (a := sumTo l l.length) (b := r.length) (A := 6000000) (B := 60) (by omega) (by omega) (by omega) (by omega)
  have m2 := mul_bd (a := sumTo r r.length) (b := l.length) (A := 6000000) (B := 60) (by omega) (by omega) (by omega) (by omega)
  have m3 := mul_bd (a := l.length) (b := r.length) (A := 60) (B := 60) (by omega) (by omega) (by omega) (by omega)
  have m4 : 0 < (l.length : Int) * r.length := Int.mul_pos (by omega) (by omega)
  refine low_bd m4 ?_ ?_ (by unfold biasU; omega)
  · unfold biasT; omega
  · unfold biasT; omega
end Go.Proofs.Ytppcmnolkbobfaa
