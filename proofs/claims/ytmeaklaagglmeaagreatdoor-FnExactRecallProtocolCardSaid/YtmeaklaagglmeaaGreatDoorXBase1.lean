/- Contracts: what an element is worth with a mark; whether all names are known. Conditions: lengths below 2^40; bases 1 to 2000. -/
import Derived.Test.YtmeaklaagglmeaaGreatDoorXBaseP
import Derived.Test.YtmeaklaagglmeaaGreatDoorXCode4
set_option linter.unusedVariables false
set_option linter.unusedSimpArgs false
set_option maxRecDepth 100000
namespace Go.Proofs.YtmeaklaagglmeaaGreatDoor
open Go.RowKit
set_option maxHeartbeats 1000000 in
theorem bsWorth_any (w : World) (A B : Option Addr) (n m c d : Nat) (els : List El) (q0 q1 q2 q3 : Int) (s : ByteArray) (mark : Int) (ha : RdEl w A n els) (hn : n ≤ 1099511627776) (hf : 0 ≤ findE els s) (hB : basesOk els) (hq : 0 ≤ q2) (hq' : q2 ≤ 100) :
  Calls Tryz.prog 253 #[.agg #[.slice A n c, .slice B m d, .int .i64 q0, .int .i64 q1, .int .i64 q2, .int .i64 q3], .string s, .int .i64 mark] w fun e w' => e = .returned (.int .i64 (wAt els q2 s mark)) ∧ ∃ y, w' = ext w y := by
 have Hl := Lib.hid ha.len
 obtain ⟨k, hk, hkn⟩ := findE_nat hf
 have z := hB k hkn
 rw [Hl.out] at hkn
 have ha0 := ha
 obtain ⟨b, off, rfl, hb0, hc0, hc1, hc2, hc3⟩ := ha.at_ k hkn
 have HW : wAt els q2 s mark = worthV q2 (els[k]?.getD zEl).2.2.2 mark := by rw [wAt, hk]; rfl
 rw [HW]
 have cf := fun W (h : Below w.heap.size w W) => cdFind_any W (some ⟨b, off, none⟩) B n m c d els q0 q1 q2 q3 s (ha0.below h) hn
 simp only [hk] at cf
 clear HW hk hc0 hc1 hc2 hB hf ha
 generalize (els[k]?.getD zEl).2.2.2 = base at *
 obtain ⟨z1, z2⟩ := z
 have p0 : 0 ≤ base * q2 := Int.mul_nonneg (by omega) hq
 have p1 : base * q2 ≤ 2000 * 100 := Int.mul_le_mul z2 hq' hq (by omega)
 have e0 : IntKind.i64.wrap (base * q2) = base * q2 := IntWalk.i64_in _ (by omega)
 have e1 : (base * q2).tdiv 100 = base * q2 / 100 := Int.tdiv_eq_ediv_of_nonneg p0
 have e2 : IntKind.i64.wrap (base * q2 / 100) = base * q2 / 100 := IntWalk.i64_in _ (by omega)
 have e3 : (base * 9).tdiv 10 = base * 9 / 10 := Int.tdiv_eq_ediv_of_nonneg (by omega)
 have e4 : IntKind.i64.wrap (base * 9) = base * 9 := IntWalk.i64_in _ (by omega)
 have e5 : IntKind.i64.wrap (base * 9 / 10) = base * 9 / 10 := IntWalk.i64_in _ (by omega)
 by_cases h1 : mark = 1
 ·
  obtain rfl := h1
  go_enter Tryz.func253, Tryz.ntmps253
  go_wp2_with ((go_at_call 279; ((with_reducible refine (cf _ bl).mono ?_); rintro e w' ⟨rfl, y, rfl⟩)))
  go_ret
  exact ⟨ret_int (by simp [worthV]), ext_ex bl⟩
 ·
  have b1 : (mark == 1) = false := by simp [h1]
  by_cases h2 : mark = 2
  ·
   obtain rfl := h2
   go_enter Tryz.func253, Tryz.ntmps253
   go_wp2_with ((go_at_call 279; ((with_reducible refine (cf _ bl).mono ?_); rintro e w' ⟨rfl, y, rfl⟩)))
   go_ret
   exact ⟨ret_int (by simp [worthV]), ext_ex bl⟩
  ·
   have b2 : (mark == 2) = false := by simp [h2]
   by_cases h3 : mark = 3
   ·
    obtain rfl := h3
    go_enter Tryz.func253, Tryz.ntmps253
    go_wp2_with ((go_at_call 279; ((with_reducible refine (cf _ bl).mono ?_); rintro e w' ⟨rfl, y, rfl⟩)))
    go_ret
    exact ⟨ret_int (by simp [worthV]), ext_ex bl⟩
   ·
    have b3 : (mark == 3) = false := by simp [h3]
    go_enter Tryz.func253, Tryz.ntmps253
    go_wp2_with ((go_at_call 279; ((with_reducible refine (cf _ bl).mono ?_); rintro e w' ⟨rfl, y, rfl⟩)))
    go_ret
    exact ⟨ret_int (by simp [worthV, h1, h2, h3]), ext_ex bl⟩
set_option maxHeartbeats 1000000 in
theorem worthOf_any (w : World) (A B : Option Addr) (n m c d : Nat) (q0 q1 q2 q3 : Int) (s : ByteArray) (x1 x2 base : Int) (mark : Int) (z1 : 1 ≤ base) (z2 : base ≤ 2000) (hq : 0 ≤ q2) (hq' : q2 ≤ 100) :
  Calls Tryz.prog 274 #[.agg #[.slice A n c, .slice B m d, .int .i64 q0, .int .i64 q1, .int .i64 q2, .int .i64 q3], .agg #[.string s, .int .i64 x1, .int .i64 x2, .int .i64 base], .int .i64 mark] w fun e w' => e = .returned (.int .i64 (worthV q2 base mark)) ∧ ∃ y, w' = ext w y := by
 have p0 : 0 ≤ base * q2 := Int.mul_nonneg (by omega) hq
 have p1 : base * q2 ≤ 2000 * 100 := Int.mul_le_mul z2 hq' hq (by omega)
 have e0 : IntKind.i64.wrap (base * q2) = base * q2 := IntWalk.i64_in _ (by omega)
 have e1 : (base * q2).tdiv 100 = base * q2 / 100 := Int.tdiv_eq_ediv_of_nonneg p0
 have e2 : IntKind.i64.wrap (base * q2 / 100) = base * q2 / 100 := IntWalk.i64_in _ (by omega)
 have e3 : (base * 9).tdiv 10 = base * 9 / 10 := Int.tdiv_eq_ediv_of_nonneg (by omega)
 have e4 : IntKind.i64.wrap (base * 9) = base * 9 := IntWalk.i64_in _ (by omega)
 have e5 : IntKind.i64.wrap (base * 9 / 10) = base * 9 / 10 := IntWalk.i64_in _ (by omega)
 by_cases h1 : mark = 1
 ·
  obtain rfl := h1
  go_enter Tryz.func274, Tryz.ntmps274
  go_wp2
  go_ret
  exact ⟨ret_int (by simp [worthV]), ext_ex bl⟩
 ·
  have b1 : (mark == 1) = false := by simp [h1]
  by_cases h2 : mark = 2
  ·
   obtain rfl := h2
   go_enter Tryz.func274, Tryz.ntmps274
   go_wp2
   go_ret
   exact ⟨ret_int (by simp [worthV]), ext_ex bl⟩
  ·
   have b2 : (mark == 2) = false := by simp [h2]
   by_cases h3 : mark = 3
   ·
    obtain rfl := h3
    go_enter Tryz.func274, Tryz.ntmps274
    go_wp2
    go_ret
    exact ⟨ret_int (by simp [worthV]), ext_ex bl⟩
   ·
    have b3 : (mark == 3) = false := by simp [h3]
    go_enter Tryz.func274, Tryz.ntmps274
    go_wp2
    go_ret
    exact ⟨ret_int (by simp [worthV, h1, h2, h3]), ext_ex bl⟩
set_option maxHeartbeats 1000000 in
theorem bsKnows_any (w : World) (A B : Option Addr) (n m c d : Nat) (els : List El) (q0 q1 q2 q3 : Int) (A2 : Option Addr) (n2 c2 : Nat) (its : List It) (ha : RdEl w A n els) (hn : n ≤ 1099511627776) (hi : RdIt w A2 n2 its) (hn2 : n2 ≤ 1099511627776) (hs : ∀ x ∈ its, itSmall x) :
  Calls Tryz.prog 252 #[.agg #[.slice A n c, .slice B m d, .int .i64 q0, .int .i64 q1, .int .i64 q2, .int .i64 q3], .slice A2 n2 c2] w fun e w' => e = .returned (.bool (knowB els its)) ∧ ∃ y, w' = ext w y := by
 have Hl := Lib.hid hi.len
 have cf := fun W s (h : Below w.heap.size w W) => cdFind_any W A B n m c d els q0 q1 q2 q3 s (ha.below h) hn
 go_enter Tryz.func252, Tryz.ntmps252
 go_wp2
 go_loopw [6, 8, 11] (fun _ _ i wr => ∃ (k : Nat) (y : World), k ≤ n2 ∧ i = .int .i64 k ∧ wr = ext (w.alloc (.cells #[.slice A n c, .slice B m d, .int .i64 q0, .int .i64 q1, .int .i64 q2, .int .i64 q3] 39)) y ∧ Hid ((its.take k).all (knowIt els) = true)) (fun _ _ i _ => n2 - (intOf i).toNat)
 case atStart => exact ⟨0, _, by omega, rfl, (ext_ex bl).choose_spec, rfl⟩
 case round =>
  obtain ⟨k, y, hk, rfl, rfl, HT⟩ := hrel
  by_cases hlt : k < n2
  ·
   obtain ⟨b, off, NA, nn, nc, MA, mn, mc, rfl, hb0, hc0, hc1, hc2, hN, hM, _, _⟩ := hi.at_ k hlt
   obtain ⟨z1, z2, z3⟩ := hs _ (getD_mem zIt its k (by rw [Hl.out]; exact hlt))
   have HN : (knowIt els (its[k]?.getD zIt) = false) → Hid (knowB els its = false) := fun h => all_no (by rw [Hl.out]; exact hlt) h
   have HS : (knowIt els (its[k]?.getD zIt) = true) → Hid ((its.take (k + 1)).all (knowIt els) = true) := fun h => all_more (by rw [Hl.out]; exact hlt) HT.out h
   generalize its[k]?.getD zIt = it at *
   obtain ⟨names, marks, late⟩ := it
   simp only at hc2 hN hM z1 z2 z3
   have hnn : nn ≤ 1099511627776 := by rw [← hN.len]; exact z1
   have HLn := Lib.hid hN.len
   have HN2 := Lib.hid HN
   have HS2 := Lib.hid HS
   clear HN HS HT
   go_wp2
   go_loopw [8, 18] (fun _ i wr => ∃ (j : Nat) (y : World), j ≤ nn ∧ i = .int .i64 j ∧ wr = ext (w.alloc (.cells #[.slice A n c, .slice B m d, .int .i64 q0, .int .i64 q1, .int .i64 q2, .int .i64 q3] 39)) y ∧ Hid ((names.take j).all (fun s => decide (0 ≤ findE els s)) = true)) (fun _ i _ => nn - (intOf i).toNat)
   case atStart => exact ⟨0, _, by omega, rfl, (ext_ex bl).choose_spec, rfl⟩
   case round =>
    obtain ⟨j, y2, hj, rfl, rfl, HU⟩ := hrel
    by_cases hjl : j < nn
    ·
     obtain ⟨bn, on, rfl, hbn, hcn⟩ := hN.open_ (by omega)
     have hcj := hcn j hjl
     have HF : decide (0 ≤ findE els (names[j]?.getD ByteArray.empty)) = false → Hid (knowB els its = false) := fun h => HN2.out (all_no (P := fun s => decide (0 ≤ findE els s)) (by rw [HLn.out]; exact hjl) h)
     have HG : decide (0 ≤ findE els (names[j]?.getD ByteArray.empty)) = true → Hid ((names.take (j + 1)).all (fun s => decide (0 ≤ findE els s)) = true) := fun h => all_more (P := fun s => decide (0 ≤ findE els s)) (by rw [HLn.out]; exact hjl) HU.out h
     clear hcn HU
     generalize names[j]?.getD ByteArray.empty = s at *
     have cs := fun W (h : Below w.heap.size w W) => cf W s h
     generalize findE els s = f at *
     by_cases hf : 0 ≤ f
     ·
      have hg := HG (by simpa using hf)
      have hf2 : ¬ f < 0 := by omega
      have hf3 := Lib.hid hf
      clear HF HG
      go_wp2_with ((go_at_call 279; ((with_reducible refine (cs _ bl).mono ?_); rintro e w' ⟨rfl, y3, rfl⟩)))
      go_roundw
      case rel => exact ⟨j + 1, _, by omega, by go_num, (ext_ex bl).choose_spec, hg.out⟩
      case measure => simp [intOf]; omega
     ·
      have hg := HF (by simpa using hf)
      have hf2 : f < 0 := by omega
      clear HF HG hf
      go_wp2_with ((go_at_call 279; ((with_reducible refine (cs _ bl).mono ?_); rintro e w' ⟨rfl, y3, rfl⟩)))
      go_ret
      exact ⟨ret_bool (by rw [hg.out]), ext_ex bl⟩
    ·
     have HE := HS2.out (show knowIt els (names, marks, late) = true from all_done (by rw [HLn.out]; omega) HU.out)
     go_wp2
     go_roundw
     case rel => exact ⟨k + 1, _, by omega, by go_num, (ext_ex bl).choose_spec, HE.out⟩
     case measure => simp [intOf]; omega
  ·
   have HE : Hid (knowB els its = true) := all_done (by rw [Hl.out]; omega) HT.out
   go_wp2
   go_ret
   exact ⟨ret_bool (by rw [HE.out]), ext_ex bl⟩
set_option maxHeartbeats 1000000 in
theorem isKnown_any (w : World) (A B : Option Addr) (n m c d : Nat) (els : List El) (q0 q1 q2 q3 : Int) (A2 : Option Addr) (n2 c2 : Nat) (its : List It) (ha : RdEl w A n els) (hn : n ≤ 1099511627776) (hi : RdIt w A2 n2 its) (hn2 : n2 ≤ 1099511627776) (hs : ∀ x ∈ its, itSmall x) :
  Calls Tryz.prog 244 #[.agg #[.slice A n c, .slice B m d, .int .i64 q0, .int .i64 q1, .int .i64 q2, .int .i64 q3], .slice A2 n2 c2] w fun e w' => e = .returned (.bool (knowB els its)) ∧ ∃ y, w' = ext w y := by
 have Hl := Lib.hid hi.len
 have cf := fun W s (h : Below w.heap.size w W) => findElement_any W A B n m c d els q0 q1 q2 q3 s (ha.below h) hn
 go_enter Tryz.func244, Tryz.ntmps244
 go_wp2
 go_loopw [6, 8, 11] (fun _ _ i wr => ∃ (k : Nat) (y : World), k ≤ n2 ∧ i = .int .i64 k ∧ wr = ext (w.alloc (.cells #[.slice A n c, .slice B m d, .int .i64 q0, .int .i64 q1, .int .i64 q2, .int .i64 q3] 39)) y ∧ Hid ((its.take k).all (knowIt els) = true)) (fun _ _ i _ => n2 - (intOf i).toNat)
 case atStart => exact ⟨0, _, by omega, rfl, (ext_ex bl).choose_spec, rfl⟩
 case round =>
  obtain ⟨k, y, hk, rfl, rfl, HT⟩ := hrel
  by_cases hlt : k < n2
  ·
   obtain ⟨b, off, NA, nn, nc, MA, mn, mc, rfl, hb0, hc0, hc1, hc2, hN, hM, _, _⟩ := hi.at_ k hlt
   obtain ⟨z1, z2, z3⟩ := hs _ (getD_mem zIt its k (by rw [Hl.out]; exact hlt))
   have HN : (knowIt els (its[k]?.getD zIt) = false) → Hid (knowB els its = false) := fun h => all_no (by rw [Hl.out]; exact hlt) h
   have HS : (knowIt els (its[k]?.getD zIt) = true) → Hid ((its.take (k + 1)).all (knowIt els) = true) := fun h => all_more (by rw [Hl.out]; exact hlt) HT.out h
   generalize its[k]?.getD zIt = it at *
   obtain ⟨names, marks, late⟩ := it
   simp only at hc2 hN hM z1 z2 z3
   have hnn : nn ≤ 1099511627776 := by rw [← hN.len]; exact z1
   have HLn := Lib.hid hN.len
   have HN2 := Lib.hid HN
   have HS2 := Lib.hid HS
   clear HN HS HT
   go_wp2
   go_loopw [8, 18] (fun _ i wr => ∃ (j : Nat) (y : World), j ≤ nn ∧ i = .int .i64 j ∧ wr = ext (w.alloc (.cells #[.slice A n c, .slice B m d, .int .i64 q0, .int .i64 q1, .int .i64 q2, .int .i64 q3] 39)) y ∧ Hid ((names.take j).all (fun s => decide (0 ≤ findE els s)) = true)) (fun _ i _ => nn - (intOf i).toNat)
   case atStart => exact ⟨0, _, by omega, rfl, (ext_ex bl).choose_spec, rfl⟩
   case round =>
    obtain ⟨j, y2, hj, rfl, rfl, HU⟩ := hrel
    by_cases hjl : j < nn
    ·
     obtain ⟨bn, on, rfl, hbn, hcn⟩ := hN.open_ (by omega)
     have hcj := hcn j hjl
     have HF : decide (0 ≤ findE els (names[j]?.getD ByteArray.empty)) = false → Hid (knowB els its = false) := fun h => HN2.out (all_no (P := fun s => decide (0 ≤ findE els s)) (by rw [HLn.out]; exact hjl) h)
     have HG : decide (0 ≤ findE els (names[j]?.getD ByteArray.empty)) = true → Hid ((names.take (j + 1)).all (fun s => decide (0 ≤ findE els s)) = true) := fun h => all_more (P := fun s => decide (0 ≤ findE els s)) (by rw [HLn.out]; exact hjl) HU.out h
     clear hcn HU
     generalize names[j]?.getD ByteArray.empty = s at *
     have cs := fun W (h : Below w.heap.size w W) => cf W s h
     generalize findE els s = f at *
     by_cases hf : 0 ≤ f
     ·
      have hg := HG (by simpa using hf)
      have hf2 : ¬ f < 0 := by omega
      have hf3 := Lib.hid hf
      clear HF HG
      go_wp2_with ((go_at_call 273; ((with_reducible refine (cs _ bl).mono ?_); rintro e w' ⟨rfl, y3, rfl⟩)))
      go_roundw
      case rel => exact ⟨j + 1, _, by omega, by go_num, (ext_ex bl).choose_spec, hg.out⟩
      case measure => simp [intOf]; omega
     ·
      have hg := HF (by simpa using hf)
      have hf2 : f < 0 := by omega
      clear HF HG hf
      go_wp2_with ((go_at_call 273; ((with_reducible refine (cs _ bl).mono ?_); rintro e w' ⟨rfl, y3, rfl⟩)))
      go_ret
      exact ⟨ret_bool (by rw [hg.out]), ext_ex bl⟩
    ·
     have HE := HS2.out (show knowIt els (names, marks, late) = true from all_done (by rw [HLn.out]; omega) HU.out)
     go_wp2
     go_roundw
     case rel => exact ⟨k + 1, _, by omega, by go_num, (ext_ex bl).choose_spec, HE.out⟩
     case measure => simp [intOf]; omega
  ·
   have HE : Hid (knowB els its = true) := all_done (by rw [Hl.out]; omega) HT.out
   go_wp2
   go_ret
   exact ⟨ret_bool (by rw [HE.out]), ext_ex bl⟩
end Go.Proofs.YtmeaklaagglmeaaGreatDoor
