/- Plain facts on series of ints: sums, fractions in lowest terms, drifts. Conditions: none. -/
import Derived.Test.YtlfhhkgleapamaaGreatDoorRBase0
import Derived.Test.YtlfhhkgleapamaaGreatDoorRStrs0
import Derived.Test.YtlfhhkgleapamaaGreatDoorRCode34
import Derived.Deep.RegionHeld3
set_option linter.unusedVariables false
set_option linter.unusedSimpArgs false
set_option maxRecDepth 100000
set_option maxHeartbeats 16000000
namespace Go.Proofs.YtlfhhkgleapamaaGreatDoor
open Go.RowKit Go.ChangeShapes Go.WideShapes Go.ChangeAt
variable {a b q0 q1 q2 : Int} {it : It} {k : Nat}
def sumTo (l : List Int) (k : Nat) : Int := (l.take k).sum
theorem sumTo_succ (l : List Int) (k : Nat) (h : k < l.length) : sumTo l (k + 1) = sumTo l k + l[k]?.getD 0 := by
 unfold sumTo; rw [take_succ_getD 0 l k h]; simp
theorem sumTo_bd {l : List Int} {c : Int} (hc : 0 <= c) (hb : ∀ x ∈ l, -c <= x /\ x <= c) (k : Nat) : -(c * k) <= sumTo l k /\ sumTo l k <= c * k := by
 induction k with
 | zero => simp [sumTo]
 | succ k ih =>
  by_cases h : k < l.length
  ·
   rw [sumTo_succ l k h];have := hb _ (getD_mem 0 l k h);have e : c * ((k + 1 : Nat) : Int) = c * k + c := by push_cast; rw [Int.mul_add, Int.mul_one]
   rw [e]; omega
  ·
   have e1 : sumTo l (k + 1) = sumTo l k := by unfold sumTo; rw [List.take_of_length_le Om, List.take_of_length_le Om]
   have e : c * ((k + 1 : Nat) : Int) = c * k + c := by push_cast; rw [Int.mul_add, Int.mul_one]
   rw [e1, e]; omega
theorem mul_bd {A B : Int} (h1 : -A <= a) (h2 : a <= A) (h3 : 0 <= b) (h4 : b <= B) : -(A * B) <= a * b /\ a * b <= A * B := by
 have hA : 0 <= A := Om;have e1 : a * b <= A * b := Int.mul_le_mul_of_nonneg_right h2 h3;have e2 : A * b <= A * B := Int.mul_le_mul_of_nonneg_left h4 hA;have e3 : -A * b <= a * b := Int.mul_le_mul_of_nonneg_right h1 h3;have e4 : -A * b = -(A * b) := Int.neg_mul _ _;omega
def basesOk (els : List El) : Prop := ∀ k, k < els.length -> 1 <= (els[k]?.getD zEl).2.2.2 /\ (els[k]?.getD zEl).2.2.2 <= 2000
def worthV (keep base mark : Int) : Int := if mark = 1 then base * keep / 100 else if mark = 2 then base * 9 / 10 else if mark = 3 then 0 else base
def wAt (els : List El) (keep : Int) (s : BA) (mark : Int) : Int := worthV keep (els[(findE els s).toNat]?.getD zEl).2.2.2 mark
theorem worthV_bd {keep base mark : Int} (h1 : 1 <= base) (h2 : base <= 2000) (h3 : 0 <= keep) (h4 : keep <= 100) : 0 <= worthV keep base mark /\ worthV keep base mark <= 2000 := by
 have p0 : 0 <= base * keep := Int.mul_nonneg Om h3;have p1 : base * keep <= 2000 * 100 := Int.mul_le_mul h2 h4 h3 Om;unfold worthV
 split
 ·
  omega
 ·
  split
  ·
   omega
  ·
   split <;> omega
theorem findE_nat {els : List El} {s : BA} (h : 0 <= findE els s) : ∃ k : Nat, findE els s = k /\ k < els.length := by
 unfold findE at h ⊢;unfold eI firstIdx at h ⊢
 cases hf : (List.range els.length).find? (eP els s) with
 | none => rw [hf] at h; simp at h
 | some k =>
  refine ⟨k, by simp, ?_⟩;have := List.mem_of_find?_eq_some hf
  simpa using this
theorem wAt_bd {els : List El} {keep : Int} {s : BA} {mark : Int} (hf : 0 <= findE els s) (hB : basesOk els) (h3 : 0 <= keep) (h4 : keep <= 100) : 0 <= wAt els keep s mark /\ wAt els keep s mark <= 2000 := by
 obtain ⟨k, hk, hkn⟩ := findE_nat hf;unfold wAt;rw [hk];exact worthV_bd (hB k hkn).1 (hB k hkn).2 h3 h4
def knowIt (els : List El) (it : It) : Bool := it.1.all fun s => decide (0 <= findE els s)
def knowB (els : List El) (its : List It) : Bool := its.all (knowIt els)
theorem all_no {α : Type} {P : α -> Bool} {d : α} {l : List α} (hk : k < l.length) (h : P (l[k]?.getD d) = false) : l.all P = false := by
 rw [Bool.eq_false_iff]; intro hh;have := List.all_eq_true.1 hh _ (getD_mem d l k hk);rw [h] at this; cases this
theorem all_more {α : Type} {P : α -> Bool} {d : α} {l : List α} (hk : k < l.length) (h1 : (l.take k).all P = true) (h : P (l[k]?.getD d) = true) : (l.take (k + 1)).all P = true := by
 rw [take_succ_getD d l k hk, List.all_append, h1];simp [h]
theorem all_done {α : Type} {P : α -> Bool} {l : List α} (hk : l.length <= k) (h1 : (l.take k).all P = true) : l.all P = true := by
 rwa [List.take_of_length_le hk] at h1
theorem down_eq (a b : Int) (hb : 0 < b) : a / b = (if a.tmod b < 0 then a.tdiv b - 1 else a.tdiv b) := by
 by_cases h : 0 <= a
 ·
  rw [Int.tmod_eq_emod_of_nonneg h, Int.tdiv_eq_ediv_of_nonneg h];have := Int.emod_nonneg a (show b ≠ 0 by omega);rw [if_neg Om]
 ·
  obtain ⟨c, rfl⟩ : ∃ c, a = -c := ⟨-a, Om⟩;rw [Int.neg_tmod, Int.neg_tdiv, Int.tmod_eq_emod_of_nonneg (show 0 <= c by omega), Int.tdiv_eq_ediv_of_nonneg (show 0 <= c by omega)];have e := Int.mul_ediv_add_emod c b;have m0 := Int.emod_nonneg c (show b ≠ 0 by omega);have m1 := Int.emod_lt_of_pos c hb;generalize hq : c / b = q at *;generalize hr : c % b = r at *;by_cases hz : r = 0
  ·
   subst hz;rw [if_neg Om];rw [<- e];rw [Int.add_zero, <- Int.mul_neg];exact Int.mul_ediv_cancel_left _ Om
  ·
   rw [if_pos Om];have : -c = b * (-q - 1) + (b - r) := by rw [<- e, Int.mul_sub, Int.mul_neg]; omega
   rw [this, Int.add_comm, Int.add_mul_ediv_left _ _ Om, Int.ediv_eq_zero_of_lt Om Om];omega
def roundV (a b : Int) : Int := (2 * a + b) / (2 * b)
theorem down_bd {A : Int} (hb : 0 < b) (h1 : -A <= a) (h2 : a <= A) (hA : 0 <= A) : -A <= a / b /\ a / b <= A := by
 constructor
 ·
  rw [Int.le_ediv_iff_mul_le hb];have : -A * b <= -A * 1 := by
   have := Int.mul_le_mul_of_nonneg_left (show (1 : Int) <= b by omega) hA;rw [Int.neg_mul, Int.neg_mul]; omega
  omega
 ·
  have h3 : a / b < A + 1 := by
   rw [Int.ediv_lt_iff_lt_mul hb];have := Int.mul_le_mul_of_nonneg_left (show (1 : Int) <= b by omega) (show 0 <= A + 1 by omega);omega
  omega
def CodeG (els : List El) (q0 q1 q2 : Int) : Prop := basesOk els /\ (1 <= q0 /\ q0 <= 3) /\ (0 <= q1 /\ q1 <= 20) /\ (0 <= q2 /\ q2 <= 100)
def ItG (els : List El) (it : It) : Prop := (1 <= it.1.length /\ it.1.length <= 3) /\ it.2.1.length = it.1.length /\ ∀ j, j < it.1.length -> 0 <= findE els (it.1[j]?.getD ByteArray.empty)
def nmAt (it : It) (i : Nat) : ByteArray := it.1[i]?.getD ByteArray.empty
def mkAt (it : It) (i : Nat) : Int := it.2.1[i]?.getD 0
def wTo (els : List El) (keep : Int) (it : It) (k : Nat) : List Int := (List.range k).map fun i => wAt els keep (nmAt it i) (mkAt it i)
theorem wTo_succ (els : List El) (keep : Int) (it : It) (k : Nat) : wTo els keep it (k + 1) = wTo els keep it k ++ [wAt els keep (nmAt it k) (mkAt it k)] := by simp [wTo, List.range_succ]
theorem wTo_len (els : List El) (keep : Int) (it : It) (k : Nat) : (wTo els keep it k).length = k := by simp [wTo]
def wSum (els : List El) (keep : Int) (it : It) (k : Nat) : Int := (wTo els keep it k).sum
theorem wSum_succ (els : List El) (keep : Int) (it : It) (k : Nat) : wSum els keep it (k + 1) = wSum els keep it k + wAt els keep (nmAt it k) (mkAt it k) := by simp [wSum, wTo_succ]
theorem wTo_bd {els : List El} (hc : CodeG els q0 q1 q2) (hi : ItG els it) (k : Nat) (hk : k <= it.1.length) : ∀ x ∈ wTo els q2 it k, 0 <= x /\ x <= 2000 := by
 intro x hx;obtain ⟨i, hi1, rfl⟩ := List.mem_map.1 hx;simp only [List.mem_range] at hi1;exact wAt_bd (hi.2.2 i Om) hc.1 hc.2.2.2.1 hc.2.2.2.2
theorem wSum_bd {els : List El} {q0 q1 q2 : Int} {it : It} (hc : CodeG els q0 q1 q2) (hi : ItG els it) : ∀ k, k <= it.1.length -> 0 <= wSum els q2 it k /\ wSum els q2 it k <= 2000 * k
 | 0, _ => by simp [wSum, wTo]
 | k + 1, h => by
  have h1 := wSum_bd hc hi k Om;have h2 := wAt_bd (mark := mkAt it k) (hi.2.2 k Om) hc.1 hc.2.2.2.1 hc.2.2.2.2;rw [wSum_succ];unfold nmAt;omega
theorem wSum_to (els : List El) (keep : Int) (it : It) (k : Nat) : sumTo (wTo els keep it k) k = wSum els keep it k := by
 rw [sumTo, List.take_of_length_le (by rw [wTo_len]; omega)]; rfl
def fullV (els : List El) (q1 q2 : Int) (it : It) : Int := if it.2.2 then roundV (wSum els q2 it it.1.length * (100 + q1)) 100 else wSum els q2 it it.1.length
theorem full_mul {els : List El} (hc : CodeG els q0 q1 q2) (hi : ItG els it) : 0 <= wSum els q2 it it.1.length * (100 + q1) /\ wSum els q2 it it.1.length * (100 + q1) <= 720000 := by
 have h := wSum_bd hc hi _ (Nat.le_refl _);have h3 := hi.1.2;have h4 := hc.2.2.1;refine ⟨Int.mul_nonneg h.1 Om, ?_⟩;have : wSum els q2 it it.1.length * (100 + q1) <= 6000 * 120 := Int.mul_le_mul Om Om Om Om;omega
theorem full_bd {els : List El} (hc : CodeG els q0 q1 q2) (hi : ItG els it) : 0 <= fullV els q1 q2 it /\ fullV els q1 q2 it <= 7201 := by
 have h := wSum_bd hc hi _ (Nat.le_refl _);have h3 := hi.1.2;have h5 := full_mul hc hi;unfold fullV roundV
 split <;> omega
def repHit (its : List It) (k j : Nat) : Bool := ((nmAt (its[j]?.getD zIt) 0).toList == (nmAt (its[k]?.getD zIt) 0).toList) && (mkAt (its[j]?.getD zIt) 0 != 3)
def repTo (its : List It) (k : Nat) : Nat -> Int
 | 0 => 0
 | j + 1 => repTo its k j + (if repHit its k j then 1 else 0)
theorem repTo_yes {its : List It} {k j : Nat} (h : repHit its k j = true) : repTo its k (j + 1) = repTo its k j + 1 := by rw [repTo, if_pos h]
theorem repTo_no {its : List It} {k j : Nat} (h : repHit its k j = false) : repTo its k (j + 1) = repTo its k j := by rw [repTo, if_neg (by rw [h]; simp)]; omega
theorem repTo_bd (its : List It) (k : Nat) : ∀ j, 0 <= repTo its k j /\ repTo its k j <= j
 | 0 => by simp [repTo]
 | j + 1 => by
  have := repTo_bd its k j
  cases h : repHit its k j
  ·
   rw [repTo_no h]; omega
  ·
   rw [repTo_yes h]; omega
def baseV (els : List El) (q0 q1 q2 : Int) (its : List It) (k : Nat) : Int :=
 if repTo its k k < q0 then fullV els q1 q2 (its[k]?.getD zIt) else if repTo its k k = q0 then fullV els q1 q2 (its[k]?.getD zIt) * 7 / 10 else 0
theorem base_bd {els : List El} {its : List It} (hc : CodeG els q0 q1 q2) (hi : ItG els (its[k]?.getD zIt)) : 0 <= baseV els q0 q1 q2 its k /\ baseV els q0 q1 q2 its k <= 7201 := by
 have := full_bd hc hi;unfold baseV
 split
 ·
  exact this
 ·
  split <;> omega
theorem bsWorth_any (w : World) (A B : OA) (n m c d : Nat) (els : List El) (q0 q1 q2 q3 : Int) (s : BA) (mark : Int) (ha : RdEl w A n els) (hn : n <= 1099511627776) (hf : 0 <= findE els s) (hB : basesOk els) (hq : 0 <= q2) (hq' : q2 <= 100) :
  Calls Tryz.prog 214 #[.agg #[.slice A n c, .slice B m d, .int .i64 q0, .int .i64 q1, .int .i64 q2, .int .i64 q3], .string s, .int .i64 mark] w fun e w' => e = .returned (.int .i64 (wAt els q2 s mark)) /\ ∃ y, w' = ext w y := by
 have Hl := Lib.hid ha.len;obtain ⟨k, hk, hkn⟩ := findE_nat hf;have z := hB k hkn;rw [Hl.out] at hkn;have ha0 := ha;obtain ⟨b, off, rfl, hb0, hc0, hc1, hc2, hc3⟩ := ha.at_ k hkn;have HW : wAt els q2 s mark = worthV q2 (els[k]?.getD zEl).2.2.2 mark := by rw [wAt, hk]; rfl
 rw [HW];have cf := fun W h => cdFind_any W (some ⟨b, off, none⟩) B n m c d els q0 q1 q2 q3 s (ha0.below h) hn
 simp only [hk] at cf;clear HW hk hc0 hc1 hc2 hB hf ha;generalize (els[k]?.getD zEl).2.2.2 = base at *;obtain ⟨z1, z2⟩ := z;have p0 : 0 <= base * q2 := Int.mul_nonneg Om hq;have p1 : base * q2 <= 2000 * 100 := Int.mul_le_mul z2 hq' hq Om;have e0 : IntKind.i64.wrap (base * q2) = base * q2 := IntWalk.i64_in _ Om;have e1 : (base * q2).tdiv 100 = base * q2 / 100 := Int.tdiv_eq_ediv_of_nonneg p0;have e2 : IntKind.i64.wrap (base * q2 / 100) = base * q2 / 100 := IntWalk.i64_in _ Om;have e3 : (base * 9).tdiv 10 = base * 9 / 10 := Int.tdiv_eq_ediv_of_nonneg Om;have e4 : IntKind.i64.wrap (base * 9) = base * 9 := IntWalk.i64_in _ Om;have e5 : IntKind.i64.wrap (base * 9 / 10) = base * 9 / 10 := IntWalk.i64_in _ Om;by_cases h1 : mark = 1
 ·
  obtain rfl := h1;go_enter Tryz.func214, Tryz.ntmps214;go_wp2_with ((go_at_call 240; ((with_reducible refine ex (cf _ bL) ?_); intro y)))
  go_ret;exact ⟨ret_int (by simp [worthV]), ext_ex bL⟩
 ·
  have b1 : (mark == 1) = false := by simp [h1]
  by_cases h2 : mark = 2
  ·
   obtain rfl := h2;go_enter Tryz.func214, Tryz.ntmps214;go_wp2_with ((go_at_call 240; ((with_reducible refine ex (cf _ bL) ?_); intro y)))
   go_ret;exact ⟨ret_int (by simp [worthV]), ext_ex bL⟩
  ·
   have b2 : (mark == 2) = false := by simp [h2]
   by_cases h3 : mark = 3
   ·
    obtain rfl := h3;go_enter Tryz.func214, Tryz.ntmps214;go_wp2_with ((go_at_call 240; ((with_reducible refine ex (cf _ bL) ?_); intro y)))
    go_ret;exact ⟨ret_int (by simp [worthV]), ext_ex bL⟩
   ·
    have b3 : (mark == 3) = false := by simp [h3]
    go_enter Tryz.func214, Tryz.ntmps214;go_wp2_with ((go_at_call 240; ((with_reducible refine ex (cf _ bL) ?_); intro y)))
    go_ret;exact ⟨ret_int (by simp [worthV, h1, h2, h3]), ext_ex bL⟩
theorem worthOf_any (w : World) (A B : OA) (n m c d : Nat) (q0 q1 q2 q3 : Int) (s : BA) (x1 x2 base : Int) (mark : Int) (z1 : 1 <= base) (z2 : base <= 2000) (hq : 0 <= q2) (hq' : q2 <= 100) :
  Calls Tryz.prog 235 #[.agg #[.slice A n c, .slice B m d, .int .i64 q0, .int .i64 q1, .int .i64 q2, .int .i64 q3], .agg #[.string s, .int .i64 x1, .int .i64 x2, .int .i64 base], .int .i64 mark] w fun e w' => e = .returned (.int .i64 (worthV q2 base mark)) /\ ∃ y, w' = ext w y := by
 have p0 : 0 <= base * q2 := Int.mul_nonneg Om hq;have p1 : base * q2 <= 2000 * 100 := Int.mul_le_mul z2 hq' hq Om;have e0 : IntKind.i64.wrap (base * q2) = base * q2 := IntWalk.i64_in _ Om;have e1 : (base * q2).tdiv 100 = base * q2 / 100 := Int.tdiv_eq_ediv_of_nonneg p0;have e2 : IntKind.i64.wrap (base * q2 / 100) = base * q2 / 100 := IntWalk.i64_in _ Om;have e3 : (base * 9).tdiv 10 = base * 9 / 10 := Int.tdiv_eq_ediv_of_nonneg Om;have e4 : IntKind.i64.wrap (base * 9) = base * 9 := IntWalk.i64_in _ Om;have e5 : IntKind.i64.wrap (base * 9 / 10) = base * 9 / 10 := IntWalk.i64_in _ Om;by_cases h1 : mark = 1
 ·
  obtain rfl := h1;go_enter Tryz.func235, Tryz.ntmps235;go_wp2;go_ret;exact ⟨ret_int (by simp [worthV]), ext_ex bL⟩
 ·
  have b1 : (mark == 1) = false := by simp [h1]
  by_cases h2 : mark = 2
  ·
   obtain rfl := h2;go_enter Tryz.func235, Tryz.ntmps235;go_wp2;go_ret;exact ⟨ret_int (by simp [worthV]), ext_ex bL⟩
  ·
   have b2 : (mark == 2) = false := by simp [h2]
   by_cases h3 : mark = 3
   ·
    obtain rfl := h3;go_enter Tryz.func235, Tryz.ntmps235;go_wp2;go_ret;exact ⟨ret_int (by simp [worthV]), ext_ex bL⟩
   ·
    have b3 : (mark == 3) = false := by simp [h3]
    go_enter Tryz.func235, Tryz.ntmps235;go_wp2;go_ret;exact ⟨ret_int (by simp [worthV, h1, h2, h3]), ext_ex bL⟩
theorem bsKnows_any (w : World) (A B : OA) (n m c d : Nat) (els : List El) (q0 q1 q2 q3 : Int) (A2 : OA) (n2 c2 : Nat) (its : List It) (ha : RdEl w A n els) (hn : n <= 1099511627776) (hi : RdIt w A2 n2 its) (hn2 : n2 <= 1099511627776) (hs : ∀ x ∈ its, itSmall x) :
  Calls Tryz.prog 213 #[.agg #[.slice A n c, .slice B m d, .int .i64 q0, .int .i64 q1, .int .i64 q2, .int .i64 q3], .slice A2 n2 c2] w fun e w' => e = .returned (.bool (knowB els its)) /\ ∃ y, w' = ext w y := by
 have Hl := Lib.hid hi.len;have cf := fun W s (h : Below w.heap.size w W) => cdFind_any W A B n m c d els q0 q1 q2 q3 s (ha.below h) hn
 go_enter Tryz.func213, Tryz.ntmps213;go_wp2
 go_loopw [6, 8, 11] (fun _ _ i wr => ∃ (k : Nat) (y : World), k <= n2 /\ i = .int .i64 k /\ wr = ext (w.alloc (oC A n c B m d q0 q1 q2 q3)) y /\ Hid ((its.take k).all (knowIt els) = true)) (fun _ _ i _ => n2 - (intOf i).toNat)
 case atStart => exact ⟨0, _, Om, rfl, (ext_ex bL).choose_spec, rfl⟩
 case round =>
  obtain ⟨k, y, hk, rfl, rfl, HT⟩ := hrel;by_cases hlt : k < n2
  ·
   obtain ⟨b, off, NA, nn, nc, MA, mn, mc, rfl, hb0, hc0, hc1, hc2, hN, hM, _, _⟩ := hi.at_ k hlt;obtain ⟨z1, z2, z3⟩ := hs _ (getD_mem zIt its k (by rw [Hl.out]; exact hlt));have HN : (knowIt els (its[k]?.getD zIt) = false) -> Hid (knowB els its = false) := fun h => all_no (by rw [Hl.out]; exact hlt) h
   have HS : (knowIt els (its[k]?.getD zIt) = true) -> Hid ((its.take (k + 1)).all (knowIt els) = true) := fun h => all_more (by rw [Hl.out]; exact hlt) HT.out h
   generalize its[k]?.getD zIt = it at *;obtain ⟨names, marks, late⟩ := it;simp only at hc2 hN hM z1 z2 z3;have hnn : nn <= 1099511627776 := by rw [<- hN.len]; exact z1
   have HLn := Lib.hid hN.len;have HN2 := Lib.hid HN;have HS2 := Lib.hid HS;clear HN HS HT;go_wp2
   go_loopw [8, 18] (fun _ i wr => ∃ (j : Nat) (y : World), j <= nn /\ i = .int .i64 j /\ wr = ext (w.alloc (oC A n c B m d q0 q1 q2 q3)) y /\ Hid ((names.take j).all (fun s => decide (0 <= findE els s)) = true)) (fun _ i _ => nn - (intOf i).toNat)
   case atStart => exact ⟨0, _, Om, rfl, (ext_ex bL).choose_spec, rfl⟩
   case round =>
    obtain ⟨j, y2, hj, rfl, rfl, HU⟩ := hrel;by_cases hjl : j < nn
    ·
     obtain ⟨bn, on, rfl, hbn, hcn⟩ := hN.open_ Om;have hcj := hcn j hjl;have HF : decide (0 <= findE els (names[j]?.getD ByteArray.empty)) = false -> Hid (knowB els its = false) := fun h => HN2.out (all_no (P := fun s => decide (0 <= findE els s)) (by rw [HLn.out]; exact hjl) h)
     have HG : decide (0 <= findE els (names[j]?.getD ByteArray.empty)) = true -> Hid ((names.take (j + 1)).all (fun s => decide (0 <= findE els s)) = true) := fun h => all_more (P := fun s => decide (0 <= findE els s)) (by rw [HLn.out]; exact hjl) HU.out h
     clear hcn HU;generalize names[j]?.getD ByteArray.empty = s at *;have cs := fun W (h : Below w.heap.size w W) => cf W s h
     generalize findE els s = f at *;by_cases hf : 0 <= f
     ·
      have hg := HG (by simpa using hf);have hf2 : ¬ f < 0 := Om;have hf3 := Lib.hid hf;clear HF HG;go_wp2_with ((go_at_call 240; ((with_reducible refine ex (cs _ bL) ?_); intro y3)))
      go_roundw
      case rel => exact ⟨j + 1, _, Om, by go_num, (ext_ex bL).choose_spec, hg.out⟩
      case measure => simp [intOf]; omega
     ·
      have hg := HF (by simpa using hf);have hf2 : f < 0 := Om;clear HF HG hf;go_wp2_with ((go_at_call 240; ((with_reducible refine ex (cs _ bL) ?_); intro y3)))
      go_ret;exact ⟨ret_bool (by rw [hg.out]), ext_ex bL⟩
    ·
     have HE := HS2.out (show knowIt els (names, marks, late) = true from all_done (by rw [HLn.out]; omega) HU.out);go_wp2;go_roundw
     case rel => exact ⟨k + 1, _, Om, by go_num, (ext_ex bL).choose_spec, HE.out⟩
     case measure => simp [intOf]; omega
  ·
   have HE : Hid (knowB els its = true) := all_done (by rw [Hl.out]; omega) HT.out;go_wp2;go_ret;exact ⟨ret_bool (by rw [HE.out]), ext_ex bL⟩
theorem isKnown_any (w : World) (A B : OA) (n m c d : Nat) (els : List El) (q0 q1 q2 q3 : Int) (A2 : OA) (n2 c2 : Nat) (its : List It) (ha : RdEl w A n els) (hn : n <= 1099511627776) (hi : RdIt w A2 n2 its) (hn2 : n2 <= 1099511627776) (hs : ∀ x ∈ its, itSmall x) :
  Calls Tryz.prog 205 #[.agg #[.slice A n c, .slice B m d, .int .i64 q0, .int .i64 q1, .int .i64 q2, .int .i64 q3], .slice A2 n2 c2] w fun e w' => e = .returned (.bool (knowB els its)) /\ ∃ y, w' = ext w y := by
 have Hl := Lib.hid hi.len;have cf := fun W s (h : Below w.heap.size w W) => findElement_any W A B n m c d els q0 q1 q2 q3 s (ha.below h) hn
 go_enter Tryz.func205, Tryz.ntmps205;go_wp2
 go_loopw [6, 8, 11] (fun _ _ i wr => ∃ (k : Nat) (y : World), k <= n2 /\ i = .int .i64 k /\ wr = ext (w.alloc (oC A n c B m d q0 q1 q2 q3)) y /\ Hid ((its.take k).all (knowIt els) = true)) (fun _ _ i _ => n2 - (intOf i).toNat)
 case atStart => exact ⟨0, _, Om, rfl, (ext_ex bL).choose_spec, rfl⟩
 case round =>
  obtain ⟨k, y, hk, rfl, rfl, HT⟩ := hrel;by_cases hlt : k < n2
  ·
   obtain ⟨b, off, NA, nn, nc, MA, mn, mc, rfl, hb0, hc0, hc1, hc2, hN, hM, _, _⟩ := hi.at_ k hlt;obtain ⟨z1, z2, z3⟩ := hs _ (getD_mem zIt its k (by rw [Hl.out]; exact hlt));have HN : (knowIt els (its[k]?.getD zIt) = false) -> Hid (knowB els its = false) := fun h => all_no (by rw [Hl.out]; exact hlt) h
   have HS : (knowIt els (its[k]?.getD zIt) = true) -> Hid ((its.take (k + 1)).all (knowIt els) = true) := fun h => all_more (by rw [Hl.out]; exact hlt) HT.out h
   generalize its[k]?.getD zIt = it at *;obtain ⟨names, marks, late⟩ := it;simp only at hc2 hN hM z1 z2 z3;have hnn : nn <= 1099511627776 := by rw [<- hN.len]; exact z1
   have HLn := Lib.hid hN.len;have HN2 := Lib.hid HN;have HS2 := Lib.hid HS;clear HN HS HT;go_wp2
   go_loopw [8, 18] (fun _ i wr => ∃ (j : Nat) (y : World), j <= nn /\ i = .int .i64 j /\ wr = ext (w.alloc (oC A n c B m d q0 q1 q2 q3)) y /\ Hid ((names.take j).all (fun s => decide (0 <= findE els s)) = true)) (fun _ i _ => nn - (intOf i).toNat)
   case atStart => exact ⟨0, _, Om, rfl, (ext_ex bL).choose_spec, rfl⟩
   case round =>
    obtain ⟨j, y2, hj, rfl, rfl, HU⟩ := hrel;by_cases hjl : j < nn
    ·
     obtain ⟨bn, on, rfl, hbn, hcn⟩ := hN.open_ Om;have hcj := hcn j hjl;have HF : decide (0 <= findE els (names[j]?.getD ByteArray.empty)) = false -> Hid (knowB els its = false) := fun h => HN2.out (all_no (P := fun s => decide (0 <= findE els s)) (by rw [HLn.out]; exact hjl) h)
     have HG : decide (0 <= findE els (names[j]?.getD ByteArray.empty)) = true -> Hid ((names.take (j + 1)).all (fun s => decide (0 <= findE els s)) = true) := fun h => all_more (P := fun s => decide (0 <= findE els s)) (by rw [HLn.out]; exact hjl) HU.out h
     clear hcn HU;generalize names[j]?.getD ByteArray.empty = s at *;have cs := fun W (h : Below w.heap.size w W) => cf W s h
     generalize findE els s = f at *;by_cases hf : 0 <= f
     ·
      have hg := HG (by simpa using hf);have hf2 : ¬ f < 0 := Om;have hf3 := Lib.hid hf;clear HF HG;go_wp2_with ((go_at_call 234; ((with_reducible refine ex (cs _ bL) ?_); intro y3)))
      go_roundw
      case rel => exact ⟨j + 1, _, Om, by go_num, (ext_ex bL).choose_spec, hg.out⟩
      case measure => simp [intOf]; omega
     ·
      have hg := HF (by simpa using hf);have hf2 : f < 0 := Om;clear HF HG hf;go_wp2_with ((go_at_call 234; ((with_reducible refine ex (cs _ bL) ?_); intro y3)))
      go_ret;exact ⟨ret_bool (by rw [hg.out]), ext_ex bL⟩
    ·
     have HE := HS2.out (show knowIt els (names, marks, late) = true from all_done (by rw [HLn.out]; omega) HU.out);go_wp2;go_roundw
     case rel => exact ⟨k + 1, _, Om, by go_num, (ext_ex bL).choose_spec, HE.out⟩
     case measure => simp [intOf]; omega
  ·
   have HE : Hid (knowB els its = true) := all_done (by rw [Hl.out]; omega) HT.out;go_wp2;go_ret;exact ⟨ret_bool (by rw [HE.out]), ext_ex bL⟩
theorem ret_int2 {c d : Int} (h : a = b) (h' : c = d) : Ending.returned (.tuple #[.int .i64 a, .int .i64 c]) = .returned (.tuple #[.int .i64 b, .int .i64 d]) := by rw [h, h']
theorem sumInts_any (w : World) (A : OA) (n c : Nat) (l : List Int) (ha : RdI w A n l) (hn : n <= 1000) (hb : ∀ x ∈ l, -100000 <= x /\ x <= 100000) :
  Calls Tryz.prog 138 #[.slice A n c] w fun e w' => e = .returned (.int .i64 (sumTo l n)) /\ w = w' := by
 have Hl := Lib.hid ha.len;go_enter Tryz.func138, Tryz.ntmps138;go_wp2
 go_loop [3, 5, 8] (fun t _ i => ∃ k : Nat, k <= n /\ i = .int .i64 k /\ t = .int .i64 (sumTo l k)) (fun _ _ i => n - (intOf i).toNat)
 case atStart => exact ⟨0, Om, rfl, rfl⟩
 case round =>
  obtain ⟨k, hk, rfl, rfl⟩ := hrel;by_cases hlt : k < n
  ·
   obtain ⟨b, off, rfl, hb0, hc⟩ := ha.open_ Om;have hck := hc k hlt;rw [List.getD_eq_getElem?_getD] at hck;have h1 := sumTo_bd Om hb k;have h2 := hb _ (getD_mem 0 l k (by rw [Hl.out]; exact hlt));have HS := Lib.hid (sumTo_succ l k (by rw [Hl.out]; exact hlt));clear hc;generalize l[k]?.getD 0 = x at *;generalize sumTo l k = s at *;go_wp2
   go_round
   case rel => exact ⟨k + 1, Om, by go_num, by rw [HS.out]⟩
   case measure => simp [intOf]; omega
  ·
   have hkn := Lib.hid (show k = n by omega);go_wp2;go_ret;exact ⟨ret_int (by rw [hkn.out]), rfl⟩
theorem poDown_any (a b : Int) (w : World) (h1 : -1099511627776 <= a) (h2 : a <= 1099511627776) (hb : 0 < b) (hb2 : b <= 1099511627776) :
  Calls Tryz.prog 226 #[.int .i64 a, .int .i64 b] w fun e w' => e = .returned (.int .i64 (a / b)) /\ w = w' := by
 have e := down_eq a b hb;have bd := down_bd hb h1 h2 Om;have b0 : ¬ b = 0 := Om;have b1 : ¬ b = -1 := Om;generalize a / b = v at *;by_cases h : a.tmod b < 0
 ·
  rw [if_pos h] at e;have e1 : IntKind.i64.wrap (a.tdiv b) = v + 1 := by rw [show a.tdiv b = v + 1 by omega]; exact IntWalk.i64_in _ Om
  have e2 : IntKind.i64.wrap (a.tmod b) = a.tmod b := IntWalk.i64_in _ (by have := Int.tmod_lt_of_pos a hb; have := Int.lt_tmod_of_pos a hb; omega);have HE := Lib.hid e;clear e;go_enter Tryz.func226, Tryz.ntmps226;go_wp2;go_ret;exact ⟨ret_int Om, rfl⟩
 ·
  rw [if_neg h] at e;have e1 : IntKind.i64.wrap (a.tdiv b) = v := by rw [show a.tdiv b = v by omega]; exact IntWalk.i64_in _ Om
  have e2 : IntKind.i64.wrap (a.tmod b) = a.tmod b := IntWalk.i64_in _ (by have := Int.tmod_lt_of_pos a hb; have := Int.lt_tmod_of_pos a hb; omega);clear e;go_enter Tryz.func226, Tryz.ntmps226;go_wp2;go_ret;exact ⟨rfl, rfl⟩
theorem floorDiv_any (a b : Int) (w : World) (h1 : -1099511627776 <= a) (h2 : a <= 1099511627776) (hb : 0 < b) (hb2 : b <= 1099511627776) :
  Calls Tryz.prog 210 #[.int .i64 a, .int .i64 b] w fun e w' => e = .returned (.int .i64 (a / b)) /\ w = w' := by
 have e := down_eq a b hb;have bd := down_bd hb h1 h2 Om;have b0 : ¬ b = 0 := Om;have b1 : ¬ b = -1 := Om;generalize a / b = v at *;by_cases h : a.tmod b < 0
 ·
  rw [if_pos h] at e;have e1 : IntKind.i64.wrap (a.tdiv b) = v + 1 := by rw [show a.tdiv b = v + 1 by omega]; exact IntWalk.i64_in _ Om
  have e2 : IntKind.i64.wrap (a.tmod b) = a.tmod b := IntWalk.i64_in _ (by have := Int.tmod_lt_of_pos a hb; have := Int.lt_tmod_of_pos a hb; omega);have HE := Lib.hid e;clear e;go_enter Tryz.func210, Tryz.ntmps210;go_wp2;go_ret;exact ⟨ret_int Om, rfl⟩
 ·
  rw [if_neg h] at e;have e1 : IntKind.i64.wrap (a.tdiv b) = v := by rw [show a.tdiv b = v by omega]; exact IntWalk.i64_in _ Om
  have e2 : IntKind.i64.wrap (a.tmod b) = a.tmod b := IntWalk.i64_in _ (by have := Int.tmod_lt_of_pos a hb; have := Int.lt_tmod_of_pos a hb; omega);clear e;go_enter Tryz.func210, Tryz.ntmps210;go_wp2;go_ret;exact ⟨rfl, rfl⟩
theorem poRound_any (a b : Int) (w : World) (h1 : -1073741824 <= a) (h2 : a <= 1073741824) (hb : 0 < b) (hb2 : b <= 1073741824) :
  Calls Tryz.prog 194 #[.int .i64 a, .int .i64 b] w fun e w' => e = .returned (.int .i64 (roundV a b)) /\ w = w' := by
 have HR : Hid (roundV a b = (2 * a + b) / (2 * b)) := rfl;go_enter Tryz.func194, Tryz.ntmps194;go_wp2_with ((go_at_call 226; (with_reducible refine ep (poDown_any _ _ _ Om Om Om Om) ?_)))
 go_ret;exact ⟨ret_int (by rw [HR.out]), rfl⟩
theorem roundDiv_any (a b : Int) (w : World) (h1 : -1073741824 <= a) (h2 : a <= 1073741824) (hb : 0 < b) (hb2 : b <= 1073741824) :
  Calls Tryz.prog 161 #[.int .i64 a, .int .i64 b] w fun e w' => e = .returned (.int .i64 (roundV a b)) /\ w = w' := by
 have HR : Hid (roundV a b = (2 * a + b) / (2 * b)) := rfl;go_enter Tryz.func161, Tryz.ntmps161;go_wp2_with ((go_at_call 210; (with_reducible refine ep (floorDiv_any _ _ _ Om Om Om Om) ?_)))
 go_ret;exact ⟨ret_int (by rw [HR.out]), rfl⟩
theorem bsFull_any (w : World) (A B : OA) (n m c d : Nat) (els : List El) (q0 q1 q2 q3 : Int) (NA MA : OA) (nn nc mn mc : Nat) (it : It) (ha : RdEl w A n els) (hn : n <= 1099511627776) (hC : CodeG els q0 q1 q2) (hN : RdT w NA nn it.1) (hM : RdI w MA mn it.2.1) (hI : ItG els it) :
  Calls Tryz.prog 167 #[.agg #[.slice A n c, .slice B m d, .int .i64 q0, .int .i64 q1, .int .i64 q2, .int .i64 q3], .agg #[.slice NA nn nc, .slice MA mn mc, .bool it.2.2]] w fun e w' => e = .returned (.int .i64 (fullV els q1 q2 it)) /\ ∃ y, w' = ext w y := by
 have Hn := Lib.hid hN.len;have Hm := Lib.hid hM.len;have hI1 := hI.1.2;have hIm := hI.2.1;rw [Hn.out] at hI1 hIm;rw [Hm.out] at hIm;obtain rfl := hIm.symm;have hsum := fun k => wSum_bd hC hI k
 rw [Hn.out] at hsum;have hmul := full_mul hC hI;rw [Hn.out] at hmul;have HV : Hid (fullV els q1 q2 it = if it.2.2 then roundV (wSum els q2 it nn * (100 + q1)) 100 else wSum els q2 it nn) := by unfold Hid fullV; rw [Hn.out]
 obtain ⟨hq1, hq2⟩ := hC.2.2;have cw := fun W s mark (h : Below w.heap.size w W) hf => bsWorth_any W A B n m c d els q0 q1 q2 q3 s mark (ha.below h) hn hf hC.1 hq2.1 hq2.2
 have hkn := hI.2.2;rw [Hn.out] at hkn;obtain ⟨late, hlate⟩ : ∃ l, it.2.2 = l := ⟨_, rfl⟩;rw [hlate] at HV ⊢;clear hlate hC hI;go_enter Tryz.func167, Tryz.ntmps167;go_wp2
 go_loopw [5, 6, 7, 11] (fun t _ _ i wr => ∃ (k : Nat) (y : World), k <= nn /\ i = .int .i64 k /\ t = .int .i64 (wSum els q2 it k) /\ wr = ext ((w.alloc (oC A n c B m d q0 q1 q2 q3)).alloc (.cells #[.slice NA nn nc, .slice MA nn mc, .bool late] 61)) y) (fun _ _ _ i _ => nn - (intOf i).toNat)
 case atStart => exact ⟨0, _, Om, rfl, by simp [wSum, wTo], ext_self _⟩
 case round =>
  obtain ⟨k, y, hk, rfl, rfl, rfl⟩ := hrel;have hs1 := hsum k hk;by_cases hlt : k < nn
  ·
   obtain ⟨bn, on, rfl, hbn, hcn⟩ := hN.open_ Om;obtain ⟨bm, om, rfl, hbm, hcm⟩ := hM.open_ Om;have hcnk : w.cell? ⟨bn, on + k, none⟩ = some (.string (nmAt it k)) := hcn k hlt;have hcmk : w.cell? ⟨bm, om + k, none⟩ = some (.int .i64 (mkAt it k)) := by have := hcm k Om; rwa [List.getD_eq_getElem?_getD] at this
   have hf : 0 <= findE els (nmAt it k) := hkn k hlt;have hs2 := hsum (k + 1) Om;have HS := Lib.hid (wSum_succ els q2 it k);rw [HS.out] at hs2;have cs := fun W (h : Below w.heap.size w W) => cw W (nmAt it k) (mkAt it k) h hf
   clear hcn hcm cw hf hkn hsum;generalize wSum els q2 it k = s at *;generalize wAt els q2 (nmAt it k) (mkAt it k) = v at *;generalize nmAt it k = nm at *;generalize mkAt it k = mk at *;have hS := fun W h => kS (R := ((w.alloc (oC A n c B m d q0 q1 q2 q3)).alloc (.cells #[.slice (some ⟨bn, on, none⟩) nn nc, .slice (some ⟨bm, om, none⟩) nn mc, .bool late] 61))) (W := W) (l := [(⟨w.heap.size, 0, none⟩, .slice A n c), (⟨w.heap.size, 1, none⟩, .slice B m d), (⟨w.heap.size, 2, none⟩, .int .i64 q0), (⟨w.heap.size, 3, none⟩, .int .i64 q1), (⟨w.heap.size, 4, none⟩, .int .i64 q2), (⟨w.heap.size, 5, none⟩, .int .i64 q3), (⟨w.heap.size + 1, 0, none⟩, .slice (some ⟨bn, on, none⟩) nn nc), (⟨w.heap.size + 1, 1, none⟩, .slice (some ⟨bm, om, none⟩) nn mc), (⟨w.heap.size + 1, 2, none⟩, .bool late), (⟨bm, om + k, none⟩, .int .i64 mk)]) h
   have fn1 := ((by repeat (first | exact Below.refl _ _ | assumption | refine bExt ?_ _ | refine bAlloc ?_ _ | refine bDrewN ?_ _ | refine bDrew ?_ | refine bSet ?_ (by first | exact Nat.le_refl _ | omega | (simp; done) | (simp; omega)) _) : Below w.heap.size w (ext ((w.alloc (oC A n c B m d q0 q1 q2 q3)).alloc (.cells #[.slice (some ⟨bn, on, none⟩) nn nc, .slice (some ⟨bm, om, none⟩) nn mc, .bool late] 61)) y)).cell (p := ⟨bn, on + k, none⟩) hbn).trans hcnk;have fm1 := ((by repeat (first | exact Below.refl _ _ | assumption | refine bExt ?_ _ | refine bAlloc ?_ _ | refine bDrewN ?_ _ | refine bDrew ?_ | refine bSet ?_ (by first | exact Nat.le_refl _ | omega | (simp; done) | (simp; omega)) _) : Below w.heap.size w (ext ((w.alloc (oC A n c B m d q0 q1 q2 q3)).alloc (.cells #[.slice (some ⟨bn, on, none⟩) nn nc, .slice (some ⟨bm, om, none⟩) nn mc, .bool late] 61)) y)).cell (p := ⟨bm, om + k, none⟩) hbm).trans hcmk;have e0 : IntKind.i64.wrap (s + v) = s + v := IntWalk.i64_in _ Om;go_wp2
   go_region_held3 (fun w' => w'.cell? ⟨w.heap.size, 0, none⟩ = some (.slice A n c) /\ w'.cell? ⟨w.heap.size, 1, none⟩ = some (.slice B m d) /\ w'.cell? ⟨w.heap.size, 2, none⟩ = some (.int .i64 q0) /\ w'.cell? ⟨w.heap.size, 3, none⟩ = some (.int .i64 q1) /\ w'.cell? ⟨w.heap.size, 4, none⟩ = some (.int .i64 q2) /\ w'.cell? ⟨w.heap.size, 5, none⟩ = some (.int .i64 q3) /\ w'.cell? ⟨w.heap.size + 1, 0, none⟩ = some (.slice (some ⟨bn, on, none⟩) nn nc) /\ w'.cell? ⟨w.heap.size + 1, 1, none⟩ = some (.slice (some ⟨bm, om, none⟩) nn mc) /\ w'.cell? ⟨w.heap.size + 1, 2, none⟩ = some (.bool late) /\ w'.cell? ⟨bm, om + k, none⟩ = some (.int .i64 mk)) (exact hS _ bL) (first | (go_at_call 214; ((with_reducible refine ex (cs _ bL) ?_); intro y3)))
   go_wp2;go_roundw
   case rel => exact ⟨k + 1, _, Om, by go_num, by rw [HS.out], (ext_ex bL).choose_spec⟩
   case measure => simp [intOf]; omega
  ·
   obtain rfl : k = nn := Om;clear hsum cw hkn;generalize wSum els q2 it k = s at *
   cases late
   ·
    go_wp2;go_ret;exact ⟨ret_int (by rw [HV.out]; rfl), ext_ex bL⟩
   ·
    have e1 : IntKind.i64.wrap (s * (100 + q1)) = s * (100 + q1) := IntWalk.i64_in _ Om;have cr := fun W => poRound_any (s * (100 + q1)) 100 W Om Om Om Om
    go_wp2_with ((go_at_call 194; (with_reducible refine ep (cr _) ?_)))
    go_ret;exact ⟨ret_int (by rw [HV.out]; rfl), ext_ex bL⟩
end Go.Proofs.YtlfhhkgleapamaaGreatDoor
