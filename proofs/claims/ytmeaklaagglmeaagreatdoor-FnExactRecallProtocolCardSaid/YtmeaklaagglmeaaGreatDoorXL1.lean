/- Contracts of the smallest functions of the program and of the reference (numbers, tests on lists of numbers). Conditions: none on numbers that are only compared; lengths below 2^40. -/
import Derived.Test.YtmeaklaagglmeaaGreatDoorXOwn
import Derived.Test.YtmeaklaagglmeaaGreatDoorXPlain
set_option linter.unusedVariables false
set_option linter.unusedSimpArgs false
set_option maxRecDepth 100000
namespace Go.Proofs.YtmeaklaagglmeaaGreatDoor
open Go.RowKit

def inB (a lo hi : Int) : Bool := decide (lo ≤ a) && decide (a ≤ hi)
theorem inB_iff {a lo hi : Int} : inB a lo hi = true ↔ lo ≤ a ∧ a ≤ hi := by simp [inB]
set_option maxHeartbeats 400000 in
theorem l1In_any (a lo hi : Int) (w : World) :
  Calls Tryz.prog 87 #[.int .i64 a, .int .i64 lo, .int .i64 hi] w fun e w' => e = .returned (.bool (inB a lo hi)) ∧ w = w' := by
 unfold inB
 by_cases h1 : lo ≤ a <;> by_cases h2 : a ≤ hi
 all_goals
  go_enter Tryz.func87, Tryz.ntmps87
  go_wp2
  go_ret
  simp [h1, h2]
set_option maxHeartbeats 400000 in
theorem within_any (a lo hi : Int) (w : World) :
  Calls Tryz.prog 91 #[.int .i64 a, .int .i64 lo, .int .i64 hi] w fun e w' => e = .returned (.bool (inB a lo hi)) ∧ w = w' := by
 unfold inB
 by_cases h1 : lo ≤ a <;> by_cases h2 : a ≤ hi
 all_goals
  go_enter Tryz.func91, Tryz.ntmps91
  go_wp2
  go_ret
  simp [h1, h2]
theorem l1Least_any (a b : Int) (w : World) :
  Calls Tryz.prog 174 #[.int .i64 a, .int .i64 b] w fun e w' => e = .returned (.int .i64 (min a b)) ∧ w = w' := by
 by_cases h1 : a < b
 all_goals
  go_enter Tryz.func174, Tryz.ntmps174
  go_wp2
  go_ret
  exact ⟨congrArg (fun z => Ending.returned (.int .i64 z)) (by omega), rfl⟩
set_option maxHeartbeats 400000 in
theorem eqIntS_any (w : World) (A B : Option Addr) (n m c d : Nat) (l r : List Int) (ha : RdI w A n l) (hb : RdI w B m r) (hn : n ≤ 1099511627776) :
  Calls Tryz.prog 60 #[.slice A n c, .slice B m d] w fun e w' => e = .returned (.bool (l == r)) ∧ ∃ x, w' = ext w x := by
 have Hl := Lib.hid ha.len
 have Hr := Lib.hid hb.len
 by_cases hnm : n = m
 ·
  subst hnm
  go_enter Tryz.func60, Tryz.ntmps60
  go_wp2
  go_loopw [5] (fun i wr => ∃ k x, k ≤ n ∧ i = .int .i64 (k : Nat) ∧ wr = ext w x ∧ Hid (l.take k = r.take k)) (fun i _ => n - (intOf i).toNat)
  case atStart => exact ⟨0, _, Nat.zero_le _, rfl, (ext_self w), rfl⟩
  case round =>
   obtain ⟨k, x, hk, rfl, rfl, HT⟩ := hrel
   by_cases hlt : k < n
   ·
    obtain ⟨b1, o1, rfl, hb1, hc1⟩ := ha.open_ (by omega)
    obtain ⟨b2, o2, rfl, hb2, hc2⟩ := hb.open_ (by omega)
    go_wp2
    go_quiet (fail)
    go_wp2
    ·
     go_ret
     exact ⟨ret_bool (eq_take_ne Hl.out Hr.out hlt ‹_›).symm, ext_ex bl⟩
    ·
     go_roundw
     case rel => exact ⟨k + 1, _, by omega, by go_num, (ext_ex bl).choose_spec, eq_take_step Hl.out Hr.out hlt HT.out ‹_›⟩
     case measure => simp [intOf]; omega
   ·
    go_wp2
    go_ret
    exact ⟨ret_bool (eq_take_end Hl.out Hr.out (by omega) HT.out).symm, _, rfl⟩
 ·
  go_enter Tryz.func60, Tryz.ntmps60
  go_wp2
  go_ret
  exact ⟨ret_bool (eq_len_ne (by rw [Hl.out, Hr.out]; exact hnm)).symm, ext_ex bl⟩
def marksFrom (k : Int) (n : Nat) : List Int := (List.range n).map fun (i : Nat) => k + i
set_option maxHeartbeats 400000 in
theorem heldIntS_any (w : World) (A : Option Addr) (n c : Nat) (l : List Int) (q : Int) (ha : RdI w A n l) (hn : n ≤ 1099511627776) (hq : 0 ≤ q) (hq2 : q ≤ 1099511627776) (hm : l = marksFrom q n) :
  Calls Tryz.prog 123 #[.slice A n c, .int .i64 q] w fun e w' => e = .returned (.int .i64 (q + n)) ∧ w = w' := by
 have Hm : ∀ k : Nat, k < n → Hid (l[k]?.getD 0 = q + k) := fun k hk => by subst hm; simp [marksFrom, hk, Hid]
 clear hm
 go_enter Tryz.func123, Tryz.ntmps123
 go_wp2
 go_loop [1, 5] (fun t i => ∃ k : Nat, k ≤ n ∧ i = .int .i64 k ∧ t = .int .i64 (q + k)) (fun _ i => n - (intOf i).toNat)
 case atStart => exact ⟨0, by omega, rfl, by simp⟩
 case round =>
  obtain ⟨k, hk, rfl, rfl⟩ := hrel
  by_cases hlt : k < n
  ·
   obtain ⟨b, off, rfl, hb, hc⟩ := ha.open_ (by omega)
   have hv : (l[k]?.getD 0 != q + k) = false := by rw [(Hm k hlt).out]; simp
   go_wp2
   go_round
   case rel => exact ⟨k + 1, by omega, by go_num, by go_num⟩
   case measure => simp [intOf]; omega
  ·
   have hkn := Lib.hid (show k = n by omega)
   go_wp2
   go_ret
   exact ⟨ret_int (by rw [hkn.out]), rfl⟩
theorem marks_step (q : Int) (l : List Int) (k : Nat) (h : k < l.length) : (marksFrom q k ++ l.drop k).set k (q + k) = marksFrom q (k + 1) ++ l.drop (k + 1) := by
 have e : (marksFrom q k).length = k := by simp [marksFrom]
 rw [List.set_append_right _ _ (by omega), e, Nat.sub_self, List.drop_eq_getElem_cons h, List.set_cons_zero]
 simp [marksFrom, List.range_succ]
set_option maxHeartbeats 400000 in
theorem markIntS_any (w : World) (base : Nat) (A : Option Addr) (n c : Nat) (l : List Int) (q : Int) (ha : OwI base w A n c l) (hn : n ≤ 1099511627776) (hq : 0 ≤ q) (hq2 : q ≤ 1099511627776) :
  Calls Tryz.prog 62 #[.slice A n c, .int .i64 q] w fun e w' => e = .returned (.int .i64 (q + n)) ∧ OwI base w' A n c (marksFrom q n) ∧ w.grownBy w' (blkOf A) := by
 have Hl := Lib.hid ha.len
 go_enter Tryz.func62, Tryz.ntmps62
 go_wp2
 go_loopw [1, 5] (fun t i wr => ∃ k : Nat, k ≤ n ∧ i = .int .i64 k ∧ t = .int .i64 (q + k) ∧ OwI base wr A n c (marksFrom q k ++ l.drop k) ∧ w.grownBy wr (blkOf A)) (fun _ i _ => n - (intOf i).toNat)
 case atStart => exact ⟨0, by omega, rfl, by simp, by simpa [marksFrom] using ha, World.grownBy.refl _ _⟩
 case round =>
  obtain ⟨k, hk, rfl, rfl, ho, hg⟩ := hrel
  by_cases hlt : k < n
  ·
   obtain ⟨g, rfl, hb, hz⟩ := ho.form_ (by omega)
   have hc := ho.cell_ k hlt
   have hf := ho.frozen_ k
   have hst := ho.stored_ k (q + k)
   rw [marks_step q l k (by rw [Hl.out]; exact hlt)] at hst
   have Hst := Lib.hid hst
   clear hst
   obtain ⟨u, hu⟩ : ∃ u, (marksFrom q k ++ l.drop k)[k]?.getD 0 = u := ⟨_, rfl⟩
   rw [hu] at hc
   clear hu
   go_wp2
   go_roundw
   case rel => exact ⟨k + 1, by omega, by go_num, by go_num, Hst.out.1, hg.trans Hst.out.2⟩
   case measure => simp [intOf]; omega
  ·
   have hkn := Lib.hid (show k = n by omega)
   go_wp2
   go_ret
   refine ⟨ret_int (by rw [hkn.out]), ?_, hg⟩
   have := ho
   rw [List.drop_of_length_le (by rw [Hl.out]; omega), List.append_nil, hkn.out] at this
   exact this
end Go.Proofs.YtmeaklaagglmeaaGreatDoor
