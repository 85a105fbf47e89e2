/- Contracts: what an element is worth with a mark; whether all names are known. Conditions: lengths below 2^40; bases 1 to 2000. -/
import Derived.Test.YtfmidngndddfiaaGreatDoorBaseP
import Derived.Test.YtfmidngndddfiaaGreatDoorCode4
import Derived.Test.YtfmidngndddfiaaGreatDoorBaseQ
import Derived.Test.YtfmidngndddfiaaGreatDoorStats
import Derived.Deep.RegionHeld3
import Derived.Test.YtfmidngndddfiaaGreatDoorSorts
import Derived.BigQuiet
set_option linter.unusedVariables false
set_option linter.unusedSimpArgs false
set_option maxRecDepth 100000
namespace Go.Proofs.YtfmidngndddfiaaGreatDoor
open Go.RowKit
set_option maxHeartbeats 1000000 in
theorem bsWorth_any (w : World) (A B : Option Addr) (n m c d : Nat) (els : List El) (q0 q1 q2 q3 : Int) (s : ByteArray) (mark : Int) (ha : RdEl w A n els) (hn : n ≤ 1099511627776) (hf : 0 ≤ findE els s) (hB : basesOk els) (hq : 0 ≤ q2) (hq' : q2 ≤ 100) :
    Calls Tryz.prog 115 #[.agg #[.slice A n c, .slice B m d, .int .i64 q0, .int .i64 q1, .int .i64 q2, .int .i64 q3], .string s, .int .i64 mark] w fun e w' => e = .returned (.int .i64 (wAt els q2 s mark)) ∧ ∃ y, w' = ext w y := by
  have Hl := Lib.hid ha.len
  obtain ⟨k, hk, hkn⟩ := findE_nat hf
  have z := hB k hkn
  rw [Hl.out] at hkn
  have ha0 := ha
  obtain ⟨b, off, rfl, hb0, hc0, hc1, hc2, hc3⟩ := ha.at_ k hkn
  have HW : wAt els q2 s mark = worthV q2 (els[k]?.getD zEl).2.2.2 mark := by rw [wAt, hk]; rfl
  rw [HW]
  have cf := fun W (h : Below w.heap.size w W) => cdFind_any W (some ⟨b, off, none⟩) B n m c d els q0 q1 q2 q3 s (ha0.below h) hn
  simp only [hk] at cf
  clear HW hk hc0 hc1 hc2 hB hf ha
  generalize (els[k]?.getD zEl).2.2.2 = base at *
  obtain ⟨z1, z2⟩ := z
  have p0 : 0 ≤ base * q2 := Int.mul_nonneg (by omega) hq
  have p1 : base * q2 ≤ 2000 * 100 := Int.mul_le_mul z2 hq' hq (by omega)
  have e0 : IntKind.i64.wrap (base * q2) = base * q2 := IntWalk.i64_in _ (by omega)
  have e1 : (base * q2).tdiv 100 = base * q2 / 100 := Int.tdiv_eq_ediv_of_nonneg p0
  have e2 : IntKind.i64.wrap (base * q2 / 100) = base * q2 / 100 := IntWalk.i64_in _ (by omega)
  have e3 : (base * 9).tdiv 10 = base * 9 / 10 := Int.tdiv_eq_ediv_of_nonneg (by omega)
  have e4 : IntKind.i64.wrap (base * 9) = base * 9 := IntWalk.i64_in _ (by omega)
  have e5 : IntKind.i64.wrap (base * 9 / 10) = base * 9 / 10 := IntWalk.i64_in _ (by omega)
  by_cases h1 : mark = 1
  · obtain rfl := h1
    go_enter Tryz.func115, Tryz.ntmps115
    go_wp2_with ((go_at_call 147; ((with_reducible refine (cf _ (by repeat (first | exact Below.refl _ _ | assumption | refine bExt ?_ _ | refine bAlloc ?_ _ | refine bDrewN ?_ _ | refine bDrew ?_ | refine bSet ?_ (by first | exact Nat.le_refl _ | omega | (simp; done) | (simp; omega)) _))).mono ?_); rintro e w' ⟨rfl, y, rfl⟩)))
    go_ret
    exact ⟨ret_int (by simp [worthV]), ext_ex (by repeat (first | exact Below.refl _ _ | assumption | refine bExt ?_ _ | refine bAlloc ?_ _ | refine bDrewN ?_ _ | refine bDrew ?_ | refine bSet ?_ (by first | exact Nat.le_refl _ | omega | (simp; done) | (simp; omega)) _))⟩
  · have b1 : (mark == 1) = false := by simp [h1]
    by_cases h2 : mark = 2
    · obtain rfl := h2
      go_enter Tryz.func115, Tryz.ntmps115
      go_wp2_with ((go_at_call 147; ((with_reducible refine (cf _ (by repeat (first | exact Below.refl _ _ | assumption | refine bExt ?_ _ | refine bAlloc ?_ _ | refine bDrewN ?_ _ | refine bDrew ?_ | refine bSet ?_ (by first | exact Nat.le_refl _ | omega | (simp; done) | (simp; omega)) _))).mono ?_); rintro e w' ⟨rfl, y, rfl⟩)))
      go_ret
      exact ⟨ret_int (by simp [worthV]), ext_ex (by repeat (first | exact Below.refl _ _ | assumption | refine bExt ?_ _ | refine bAlloc ?_ _ | refine bDrewN ?_ _ | refine bDrew ?_ | refine bSet ?_ (by first | exact Nat.le_refl _ | omega | (simp; done) | (simp; omega)) _))⟩
    · have b2 : (mark == 2) = false := by simp [h2]
      by_cases h3 : mark = 3
      · obtain rfl := h3
        go_enter Tryz.func115, Tryz.ntmps115
        go_wp2_with ((go_at_call 147; ((with_reducible refine (cf _ (by repeat (first | exact Below.refl _ _ | assumption | refine bExt ?_ _ | refine bAlloc ?_ _ | refine bDrewN ?_ _ | refine bDrew ?_ | refine bSet ?_ (by first | exact Nat.le_refl _ | omega | (simp; done) | (simp; omega)) _))).mono ?_); rintro e w' ⟨rfl, y, rfl⟩)))
        go_ret
        exact ⟨ret_int (by simp [worthV]), ext_ex (by repeat (first | exact Below.refl _ _ | assumption | refine bExt ?_ _ | refine bAlloc ?_ _ | refine bDrewN ?_ _ | refine bDrew ?_ | refine bSet ?_ (by first | exact Nat.le_refl _ | omega | (simp; done) | (simp; omega)) _))⟩
      · have b3 : (mark == 3) = false := by simp [h3]
        go_enter Tryz.func115, Tryz.ntmps115
        go_wp2_with ((go_at_call 147; ((with_reducible refine (cf _ (by repeat (first | exact Below.refl _ _ | assumption | refine bExt ?_ _ | refine bAlloc ?_ _ | refine bDrewN ?_ _ | refine bDrew ?_ | refine bSet ?_ (by first | exact Nat.le_refl _ | omega | (simp; done) | (simp; omega)) _))).mono ?_); rintro e w' ⟨rfl, y, rfl⟩)))
        go_ret
        exact ⟨ret_int (by simp [worthV, h1, h2, h3]), ext_ex (by repeat (first | exact Below.refl _ _ | assumption | refine bExt ?_ _ | refine bAlloc ?_ _ | refine bDrewN ?_ _ | refine bDrew ?_ | refine bSet ?_ (by first | exact Nat.le_refl _ | omega | (simp; done) | (simp; omega)) _))⟩
set_option maxHeartbeats 1000000 in
theorem worthOf_any (w : World) (A B : Option Addr) (n m c d : Nat) (q0 q1 q2 q3 : Int) (s : ByteArray) (x1 x2 base : Int) (mark : Int) (z1 : 1 ≤ base) (z2 : base ≤ 2000) (hq : 0 ≤ q2) (hq' : q2 ≤ 100) :
    Calls Tryz.prog 154 #[.agg #[.slice A n c, .slice B m d, .int .i64 q0, .int .i64 q1, .int .i64 q2, .int .i64 q3], .agg #[.string s, .int .i64 x1, .int .i64 x2, .int .i64 base], .int .i64 mark] w fun e w' => e = .returned (.int .i64 (worthV q2 base mark)) ∧ ∃ y, w' = ext w y := by
  have p0 : 0 ≤ base * q2 := Int.mul_nonneg (by omega) hq
  have p1 : base * q2 ≤ 2000 * 100 := Int.mul_le_mul z2 hq' hq (by omega)
  have e0 : IntKind.i64.wrap (base * q2) = base * q2 := IntWalk.i64_in _ (by omega)
  have e1 : (base * q2).tdiv 100 = base * q2 / 100 := Int.tdiv_eq_ediv_of_nonneg p0
  have e2 : IntKind.i64.wrap (base * q2 / 100) = base * q2 / 100 := IntWalk.i64_in _ (by omega)
  have e3 : (base * 9).tdiv 10 = base * 9 / 10 := Int.tdiv_eq_ediv_of_nonneg (by omega)
  have e4 : IntKind.i64.wrap (base * 9) = base * 9 := IntWalk.i64_in _ (by omega)
  have e5 : IntKind.i64.wrap (base * 9 / 10) = base * 9 / 10 := IntWalk.i64_in _ (by omega)
  by_cases h1 : mark = 1
  · obtain rfl := h1
    go_enter Tryz.func154, Tryz.ntmps154
    go_wp2
    go_ret
    exact ⟨ret_int (by simp [worthV]), ext_ex (by repeat (first | exact Below.refl _ _ | assumption | refine bExt ?_ _ | refine bAlloc ?_ _ | refine bDrewN ?_ _ | refine bDrew ?_ | refine bSet ?_ (by first | exact Nat.le_refl _ | omega | (simp; done) | (simp; omega)) _))⟩
  · have b1 : (mark == 1) = false := by simp [h1]
    by_cases h2 : mark = 2
    · obtain rfl := h2
      go_enter Tryz.func154, Tryz.ntmps154
      go_wp2
      go_ret
      exact ⟨ret_int (by simp [worthV]), ext_ex (by repeat (first | exact Below.refl _ _ | assumption | refine bExt ?_ _ | refine bAlloc ?_ _ | refine bDrewN ?_ _ | refine bDrew ?_ | refine bSet ?_ (by first | exact Nat.le_refl _ | omega | (simp; done) | (simp; omega)) _))⟩
    · have b2 : (mark == 2) = false := by simp [h2]
      by_cases h3 : mark = 3
      · obtain rfl := h3
        go_enter Tryz.func154, Tryz.ntmps154
        go_wp2
        go_ret
        exact ⟨ret_int (by simp [worthV]), ext_ex (by repeat (first | exact Below.refl _ _ | assumption | refine bExt ?_ _ | refine bAlloc ?_ _ | refine bDrewN ?_ _ | refine bDrew ?_ | refine bSet ?_ (by first | exact Nat.le_refl _ | omega | (simp; done) | (simp; omega)) _))⟩
      · have b3 : (mark == 3) = false := by simp [h3]
        go_enter Tryz.func154, Tryz.ntmps154
        go_wp2
        go_ret
        exact ⟨ret_int (by simp [worthV, h1, h2, h3]), ext_ex (by repeat (first | exact Below.refl _ _ | assumption | refine bExt ?_ _ | refine bAlloc ?_ _ | refine bDrewN ?_ _ | refine bDrew ?_ | refine bSet ?_ (by first | exact Nat.le_refl _ | omega | (simp; done) | (simp; omega)) _))⟩
set_option maxHeartbeats 1000000 in
theorem bsKnows_any (w : World) (A B : Option Addr) (n m c d : Nat) (els : List El) (q0 q1 q2 q3 : Int) (A2 : Option Addr) (n2 c2 : Nat) (its : List It) (ha : RdEl w A n els) (hn : n ≤ 1099511627776) (hi : RdIt w A2 n2 its) (hn2 : n2 ≤ 1099511627776) (hs : ∀ x ∈ its, itSmall x) :
    Calls Tryz.prog 113 #[.agg #[.slice A n c, .slice B m d, .int .i64 q0, .int .i64 q1, .int .i64 q2, .int .i64 q3], .slice A2 n2 c2] w fun e w' => e = .returned (.bool (knowB els its)) ∧ ∃ y, w' = ext w y := by
  have Hl := Lib.hid hi.len
  have cf := fun W s (h : Below w.heap.size w W) => cdFind_any W A B n m c d els q0 q1 q2 q3 s (ha.below h) hn
  go_enter Tryz.func113, Tryz.ntmps113
  go_wp2
  go_loopw [6, 8, 11] (fun _ _ i wr => ∃ (k : Nat) (y : World), k ≤ n2 ∧ i = .int .i64 k ∧ wr = ext (w.alloc (.cells #[.slice A n c, .slice B m d, .int .i64 q0, .int .i64 q1, .int .i64 q2, .int .i64 q3] 40)) y ∧ Hid ((its.take k).all (knowIt els) = true)) (fun _ _ i _ => n2 - (intOf i).toNat)
  case atStart => exact ⟨0, _, by omega, rfl, (ext_ex (by repeat (first | exact Below.refl _ _ | assumption | refine bExt ?_ _ | refine bAlloc ?_ _ | refine bDrewN ?_ _ | refine bDrew ?_ | refine bSet ?_ (by first | exact Nat.le_refl _ | omega | (simp; done) | (simp; omega)) _))).choose_spec, rfl⟩
  case round =>
    obtain ⟨k, y, hk, rfl, rfl, HT⟩ := hrel
    by_cases hlt : k < n2
    · obtain ⟨b, off, NA, nn, nc, MA, mn, mc, rfl, hb0, hc0, hc1, hc2, hN, hM, _, _⟩ := hi.at_ k hlt
      obtain ⟨z1, z2, z3⟩ := hs _ (getD_mem zIt its k (by rw [Hl.out]; exact hlt))
      have HN : (knowIt els (its[k]?.getD zIt) = false) → Hid (knowB els its = false) := fun h => all_no (by rw [Hl.out]; exact hlt) h
      have HS : (knowIt els (its[k]?.getD zIt) = true) → Hid ((its.take (k + 1)).all (knowIt els) = true) := fun h => all_more (by rw [Hl.out]; exact hlt) HT.out h
      generalize its[k]?.getD zIt = it at *
      obtain ⟨names, marks, late⟩ := it
      simp only at hc2 hN hM z1 z2 z3
      have hnn : nn ≤ 1099511627776 := by rw [← hN.len]; exact z1
      have HLn := Lib.hid hN.len
      have HN2 := Lib.hid HN
      have HS2 := Lib.hid HS
      clear HN HS HT
      go_wp2
      go_loopw [8, 18] (fun _ i wr => ∃ (j : Nat) (y : World), j ≤ nn ∧ i = .int .i64 j ∧ wr = ext (w.alloc (.cells #[.slice A n c, .slice B m d, .int .i64 q0, .int .i64 q1, .int .i64 q2, .int .i64 q3] 40)) y ∧ Hid ((names.take j).all (fun s => decide (0 ≤ findE els s)) = true)) (fun _ i _ => nn - (intOf i).toNat)
      case atStart => exact ⟨0, _, by omega, rfl, (ext_ex (by repeat (first | exact Below.refl _ _ | assumption | refine bExt ?_ _ | refine bAlloc ?_ _ | refine bDrewN ?_ _ | refine bDrew ?_ | refine bSet ?_ (by first | exact Nat.le_refl _ | omega | (simp; done) | (simp; omega)) _))).choose_spec, rfl⟩
      case round =>
        obtain ⟨j, y2, hj, rfl, rfl, HU⟩ := hrel
        by_cases hjl : j < nn
        · obtain ⟨bn, on, rfl, hbn, hcn⟩ := hN.open_ (by omega)
          have hcj := hcn j hjl
          have HF : decide (0 ≤ findE els (names[j]?.getD ByteArray.empty)) = false → Hid (knowB els its = false) := fun h => HN2.out (all_no (P := fun s => decide (0 ≤ findE els s)) (by rw [HLn.out]; exact hjl) h)
          have HG : decide (0 ≤ findE els (names[j]?.getD ByteArray.empty)) = true → Hid ((names.take (j + 1)).all (fun s => decide (0 ≤ findE els s)) = true) := fun h => all_more (P := fun s => decide (0 ≤ findE els s)) (by rw [HLn.out]; exact hjl) HU.out h
          clear hcn HU
          generalize names[j]?.getD ByteArray.empty = s at *
          have cs := fun W (h : Below w.heap.size w W) => cf W s h
          generalize findE els s = f at *
          by_cases hf : 0 ≤ f
          · have hg := HG (by simpa using hf)
            have hf2 : ¬ f < 0 := by omega
            have hf3 := Lib.hid hf
            clear HF HG
            go_wp2_with ((go_at_call 147; ((with_reducible refine (cs _ (by repeat (first | exact Below.refl _ _ | assumption | refine bExt ?_ _ | refine bAlloc ?_ _ | refine bDrewN ?_ _ | refine bDrew ?_ | refine bSet ?_ (by first | exact Nat.le_refl _ | omega | (simp; done) | (simp; omega)) _))).mono ?_); rintro e w' ⟨rfl, y3, rfl⟩)))
            go_roundw
            case rel => exact ⟨j + 1, _, by omega, by go_num, (ext_ex (by repeat (first | exact Below.refl _ _ | assumption | refine bExt ?_ _ | refine bAlloc ?_ _ | refine bDrewN ?_ _ | refine bDrew ?_ | refine bSet ?_ (by first | exact Nat.le_refl _ | omega | (simp; done) | (simp; omega)) _))).choose_spec, hg.out⟩
            case measure => simp [intOf]; omega
          · have hg := HF (by simpa using hf)
            have hf2 : f < 0 := by omega
            clear HF HG hf
            go_wp2_with ((go_at_call 147; ((with_reducible refine (cs _ (by repeat (first | exact Below.refl _ _ | assumption | refine bExt ?_ _ | refine bAlloc ?_ _ | refine bDrewN ?_ _ | refine bDrew ?_ | refine bSet ?_ (by first | exact Nat.le_refl _ | omega | (simp; done) | (simp; omega)) _))).mono ?_); rintro e w' ⟨rfl, y3, rfl⟩)))
            go_ret
            exact ⟨ret_bool (by rw [hg.out]), ext_ex (by repeat (first | exact Below.refl _ _ | assumption | refine bExt ?_ _ | refine bAlloc ?_ _ | refine bDrewN ?_ _ | refine bDrew ?_ | refine bSet ?_ (by first | exact Nat.le_refl _ | omega | (simp; done) | (simp; omega)) _))⟩
        · have HE := HS2.out (show knowIt els (names, marks, late) = true from all_done (by rw [HLn.out]; omega) HU.out)
          go_wp2
          go_roundw
          case rel => exact ⟨k + 1, _, by omega, by go_num, (ext_ex (by repeat (first | exact Below.refl _ _ | assumption | refine bExt ?_ _ | refine bAlloc ?_ _ | refine bDrewN ?_ _ | refine bDrew ?_ | refine bSet ?_ (by first | exact Nat.le_refl _ | omega | (simp; done) | (simp; omega)) _))).choose_spec, HE.out⟩
          case measure => simp [intOf]; omega
    · have HE : Hid (knowB els its = true) := all_done (by rw [Hl.out]; omega) HT.out
      go_wp2
      go_ret
      exact ⟨ret_bool (by rw [HE.out]), ext_ex (by repeat (first | exact Below.refl _ _ | assumption | refine bExt ?_ _ | refine bAlloc ?_ _ | refine bDrewN ?_ _ | refine bDrew ?_ | refine bSet ?_ (by first | exact Nat.le_refl _ | omega | (simp; done) | (simp; omega)) _))⟩
set_option maxHeartbeats 1000000 in
theorem isKnown_any (w : World) (A B : Option Addr) (n m c d : Nat) (els : List El) (q0 q1 q2 q3 : Int) (A2 : Option Addr) (n2 c2 : Nat) (its : List It) (ha : RdEl w A n els) (hn : n ≤ 1099511627776) (hi : RdIt w A2 n2 its) (hn2 : n2 ≤ 1099511627776) (hs : ∀ x ∈ its, itSmall x) :
    Calls Tryz.prog 122 #[.agg #[.slice A n c, .slice B m d, .int .i64 q0, .int .i64 q1, .int .i64 q2, .int .i64 q3], .slice A2 n2 c2] w fun e w' => e = .returned (.bool (knowB els its)) ∧ ∃ y, w' = ext w y := by
  have Hl := Lib.hid hi.len
  have cf := fun W s (h : Below w.heap.size w W) => findElement_any W A B n m c d els q0 q1 q2 q3 s (ha.below h) hn
  go_enter Tryz.func122, Tryz.ntmps122
  go_wp2
  go_loopw [6, 8, 11] (fun _ _ i wr => ∃ (k : Nat) (y : World), k ≤ n2 ∧ i = .int .i64 k ∧ wr = ext (w.alloc (.cells #[.slice A n c, .slice B m d, .int .i64 q0, .int .i64 q1, .int .i64 q2, .int .i64 q3] 40)) y ∧ Hid ((its.take k).all (knowIt els) = true)) (fun _ _ i _ => n2 - (intOf i).toNat)
  case atStart => exact ⟨0, _, by omega, rfl, (ext_ex (by repeat (first | exact Below.refl _ _ | assumption | refine bExt ?_ _ | refine bAlloc ?_ _ | refine bDrewN ?_ _ | refine bDrew ?_ | refine bSet ?_ (by first | exact Nat.le_refl _ | omega | (simp; done) | (simp; omega)) _))).choose_spec, rfl⟩
  case round =>
    obtain ⟨k, y, hk, rfl, rfl, HT⟩ := hrel
    by_cases hlt : k < n2
    · obtain ⟨b, off, NA, nn, nc, MA, mn, mc, rfl, hb0, hc0, hc1, hc2, hN, hM, _, _⟩ := hi.at_ k hlt
      obtain ⟨z1, z2, z3⟩ := hs _ (getD_mem zIt its k (by rw [Hl.out]; exact hlt))
      have HN : (knowIt els (its[k]?.getD zIt) = false) → Hid (knowB els its = false) := fun h => all_no (by rw [Hl.out]; exact hlt) h
      have HS : (knowIt els (its[k]?.getD zIt) = true) → Hid ((its.take (k + 1)).all (knowIt els) = true) := fun h => all_more (by rw [Hl.out]; exact hlt) HT.out h
      generalize its[k]?.getD zIt = it at *
      obtain ⟨names, marks, late⟩ := it
      simp only at hc2 hN hM z1 z2 z3
      have hnn : nn ≤ 1099511627776 := by rw [← hN.len]; exact z1
      have HLn := Lib.hid hN.len
      have HN2 := Lib.hid HN
      have HS2 := Lib.hid HS
      clear HN HS HT
      go_wp2
      go_loopw [8, 18] (fun _ i wr => ∃ (j : Nat) (y : World), j ≤ nn ∧ i = .int .i64 j ∧ wr = ext (w.alloc (.cells #[.slice A n c, .slice B m d, .int .i64 q0, .int .i64 q1, .int .i64 q2, .int .i64 q3] 40)) y ∧ Hid ((names.take j).all (fun s => decide (0 ≤ findE els s)) = true)) (fun _ i _ => nn - (intOf i).toNat)
      case atStart => exact ⟨0, _, by omega, rfl, (ext_ex (by repeat (first | exact Below.refl _ _ | assumption | refine bExt ?_ _ | refine bAlloc ?_ _ | refine bDrewN ?_ _ | refine bDrew ?_ | refine bSet ?_ (by first | exact Nat.le_refl _ | omega | (simp; done) | (simp; omega)) _))).choose_spec, rfl⟩
      case round =>
        obtain ⟨j, y2, hj, rfl, rfl, HU⟩ := hrel
        by_cases hjl : j < nn
        · obtain ⟨bn, on, rfl, hbn, hcn⟩ := hN.open_ (by omega)
          have hcj := hcn j hjl
          have HF : decide (0 ≤ findE els (names[j]?.getD ByteArray.empty)) = false → Hid (knowB els its = false) := fun h => HN2.out (all_no (P := fun s => decide (0 ≤ findE els s)) (by rw [HLn.out]; exact hjl) h)
          have HG : decide (0 ≤ findE els (names[j]?.getD ByteArray.empty)) = true → Hid ((names.take (j + 1)).all (fun s => decide (0 ≤ findE els s)) = true) := fun h => all_more (P := fun s => decide (0 ≤ findE els s)) (by rw [HLn.out]; exact hjl) HU.out h
          clear hcn HU
          generalize names[j]?.getD ByteArray.empty = s at *
          have cs := fun W (h : Below w.heap.size w W) => cf W s h
          generalize findE els s = f at *
          by_cases hf : 0 ≤ f
          · have hg := HG (by simpa using hf)
            have hf2 : ¬ f < 0 := by omega
            have hf3 := Lib.hid hf
            clear HF HG
            go_wp2_with ((go_at_call 153; ((with_reducible refine (cs _ (by repeat (first | exact Below.refl _ _ | assumption | refine bExt ?_ _ | refine bAlloc ?_ _ | refine bDrewN ?_ _ | refine bDrew ?_ | refine bSet ?_ (by first | exact Nat.le_refl _ | omega | (simp; done) | (simp; omega)) _))).mono ?_); rintro e w' ⟨rfl, y3, rfl⟩)))
            go_roundw
            case rel => exact ⟨j + 1, _, by omega, by go_num, (ext_ex (by repeat (first | exact Below.refl _ _ | assumption | refine bExt ?_ _ | refine bAlloc ?_ _ | refine bDrewN ?_ _ | refine bDrew ?_ | refine bSet ?_ (by first | exact Nat.le_refl _ | omega | (simp; done) | (simp; omega)) _))).choose_spec, hg.out⟩
            case measure => simp [intOf]; omega
          · have hg := HF (by simpa using hf)
            have hf2 : f < 0 := by omega
            clear HF HG hf
            go_wp2_with ((go_at_call 153; ((with_reducible refine (cs _ (by repeat (first | exact Below.refl _ _ | assumption | refine bExt ?_ _ | refine bAlloc ?_ _ | refine bDrewN ?_ _ | refine bDrew ?_ | refine bSet ?_ (by first | exact Nat.le_refl _ | omega | (simp; done) | (simp; omega)) _))).mono ?_); rintro e w' ⟨rfl, y3, rfl⟩)))
            go_ret
            exact ⟨ret_bool (by rw [hg.out]), ext_ex (by repeat (first | exact Below.refl _ _ | assumption | refine bExt ?_ _ | refine bAlloc ?_ _ | refine bDrewN ?_ _ | refine bDrew ?_ | refine bSet ?_ (by first | exact Nat.le_refl _ | omega | (simp; done) | (simp; omega)) _))⟩
        · have HE := HS2.out (show knowIt els (names, marks, late) = true from all_done (by rw [HLn.out]; omega) HU.out)
          go_wp2
          go_roundw
          case rel => exact ⟨k + 1, _, by omega, by go_num, (ext_ex (by repeat (first | exact Below.refl _ _ | assumption | refine bExt ?_ _ | refine bAlloc ?_ _ | refine bDrewN ?_ _ | refine bDrew ?_ | refine bSet ?_ (by first | exact Nat.le_refl _ | omega | (simp; done) | (simp; omega)) _))).choose_spec, HE.out⟩
          case measure => simp [intOf]; omega
    · have HE : Hid (knowB els its = true) := all_done (by rw [Hl.out]; omega) HT.out
      go_wp2
      go_ret
      exact ⟨ret_bool (by rw [HE.out]), ext_ex (by repeat (first | exact Below.refl _ _ | assumption | refine bExt ?_ _ | refine bAlloc ?_ _ | refine bDrewN ?_ _ | refine bDrew ?_ | refine bSet ?_ (by first | exact Nat.le_refl _ | omega | (simp; done) | (simp; omega)) _))⟩
end Go.Proofs.YtfmidngndddfiaaGreatDoor
namespace Go.Proofs.YtfmidngndddfiaaGreatDoor
open Go.RowKit
theorem poDown_any (a b : Int) (w : World) (h1 : -1099511627776 ≤ a) (h2 : a ≤ 1099511627776) (hb : 0 < b) (hb2 : b ≤ 1099511627776) :
    Calls Tryz.prog 149 #[.int .i64 a, .int .i64 b] w fun e w' => e = .returned (.int .i64 (a / b)) ∧ w = w' := by
  have e := down_eq a b hb
  have bd := down_bd hb h1 h2 (by omega)
  have b0 : ¬ b = 0 := by omega
  have b1 : ¬ b = -1 := by omega
  generalize a / b = v at *
  by_cases h : a.tmod b < 0
  · rw [if_pos h] at e
    have e1 : IntKind.i64.wrap (a.tdiv b) = v + 1 := by rw [show a.tdiv b = v + 1 by omega]; exact IntWalk.i64_in _ (by omega)
    have e2 : IntKind.i64.wrap (a.tmod b) = a.tmod b := IntWalk.i64_in _ (by have := Int.tmod_lt_of_pos a hb; have := Int.lt_tmod_of_pos a hb; omega)
    have HE := Lib.hid e
    clear e
    go_enter Tryz.func149, Tryz.ntmps149
    go_wp2
    go_ret
    exact ⟨ret_int (by omega), rfl⟩
  · rw [if_neg h] at e
    have e1 : IntKind.i64.wrap (a.tdiv b) = v := by rw [show a.tdiv b = v by omega]; exact IntWalk.i64_in _ (by omega)
    have e2 : IntKind.i64.wrap (a.tmod b) = a.tmod b := IntWalk.i64_in _ (by have := Int.tmod_lt_of_pos a hb; have := Int.lt_tmod_of_pos a hb; omega)
    clear e
    go_enter Tryz.func149, Tryz.ntmps149
    go_wp2
    go_ret
    exact ⟨rfl, rfl⟩
theorem floorDiv_any (a b : Int) (w : World) (h1 : -1099511627776 ≤ a) (h2 : a ≤ 1099511627776) (hb : 0 < b) (hb2 : b ≤ 1099511627776) :
    Calls Tryz.prog 127 #[.int .i64 a, .int .i64 b] w fun e w' => e = .returned (.int .i64 (a / b)) ∧ w = w' := by
  have e := down_eq a b hb
  have bd := down_bd hb h1 h2 (by omega)
  have b0 : ¬ b = 0 := by omega
  have b1 : ¬ b = -1 := by omega
  generalize a / b = v at *
  by_cases h : a.tmod b < 0
  · rw [if_pos h] at e
    have e1 : IntKind.i64.wrap (a.tdiv b) = v + 1 := by rw [show a.tdiv b = v + 1 by omega]; exact IntWalk.i64_in _ (by omega)
    have e2 : IntKind.i64.wrap (a.tmod b) = a.tmod b := IntWalk.i64_in _ (by have := Int.tmod_lt_of_pos a hb; have := Int.lt_tmod_of_pos a hb; omega)
    have HE := Lib.hid e
    clear e
    go_enter Tryz.func127, Tryz.ntmps127
    go_wp2
    go_ret
    exact ⟨ret_int (by omega), rfl⟩
  · rw [if_neg h] at e
    have e1 : IntKind.i64.wrap (a.tdiv b) = v := by rw [show a.tdiv b = v by omega]; exact IntWalk.i64_in _ (by omega)
    have e2 : IntKind.i64.wrap (a.tmod b) = a.tmod b := IntWalk.i64_in _ (by have := Int.tmod_lt_of_pos a hb; have := Int.lt_tmod_of_pos a hb; omega)
    clear e
    go_enter Tryz.func127, Tryz.ntmps127
    go_wp2
    go_ret
    exact ⟨rfl, rfl⟩
theorem poRound_any (a b : Int) (w : World) (h1 : -1073741824 ≤ a) (h2 : a ≤ 1073741824) (hb : 0 < b) (hb2 : b ≤ 1073741824) :
    Calls Tryz.prog 116 #[.int .i64 a, .int .i64 b] w fun e w' => e = .returned (.int .i64 (roundV a b)) ∧ w = w' := by
  have HR : Hid (roundV a b = (2 * a + b) / (2 * b)) := rfl
  go_enter Tryz.func116, Tryz.ntmps116
  go_wp2_with ((go_at_call 149; ((with_reducible refine (poDown_any _ _ _ (by omega) (by omega) (by omega) (by omega)).mono ?_); rintro e w' ⟨rfl, rfl⟩)))
  go_ret
  exact ⟨ret_int (by rw [HR.out]), rfl⟩
theorem roundDiv_any (a b : Int) (w : World) (h1 : -1073741824 ≤ a) (h2 : a ≤ 1073741824) (hb : 0 < b) (hb2 : b ≤ 1073741824) :
    Calls Tryz.prog 94 #[.int .i64 a, .int .i64 b] w fun e w' => e = .returned (.int .i64 (roundV a b)) ∧ w = w' := by
  have HR : Hid (roundV a b = (2 * a + b) / (2 * b)) := rfl
  go_enter Tryz.func94, Tryz.ntmps94
  go_wp2_with ((go_at_call 127; ((with_reducible refine (floorDiv_any _ _ _ (by omega) (by omega) (by omega) (by omega)).mono ?_); rintro e w' ⟨rfl, rfl⟩)))
  go_ret
  exact ⟨ret_int (by rw [HR.out]), rfl⟩
set_option maxHeartbeats 2000000 in
theorem bsFull_any (w : World) (A B : Option Addr) (n m c d : Nat) (els : List El) (q0 q1 q2 q3 : Int) (NA MA : Option Addr) (nn nc mn mc : Nat) (it : It) (ha : RdEl w A n els) (hn : n ≤ 1099511627776) (hC : CodeG els q0 q1 q2) (hN : RdT w NA nn it.1) (hM : RdI w MA mn it.2.1) (hI : ItG els it) :
    Calls Tryz.prog 83 #[.agg #[.slice A n c, .slice B m d, .int .i64 q0, .int .i64 q1, .int .i64 q2, .int .i64 q3], .agg #[.slice NA nn nc, .slice MA mn mc, .bool it.2.2]] w fun e w' => e = .returned (.int .i64 (fullV els q1 q2 it)) ∧ ∃ y, w' = ext w y := by
  have Hn := Lib.hid hN.len
  have Hm := Lib.hid hM.len
  have hI1 := hI.1.2
  have hIm := hI.2.1
  rw [Hn.out] at hI1 hIm
  rw [Hm.out] at hIm
  obtain rfl := hIm.symm
  have hsum := fun k => wSum_bd hC hI k
  rw [Hn.out] at hsum
  have hmul := full_mul hC hI
  rw [Hn.out] at hmul
  have HV : Hid (fullV els q1 q2 it = if it.2.2 then roundV (wSum els q2 it nn * (100 + q1)) 100 else wSum els q2 it nn) := by unfold Hid fullV; rw [Hn.out]
  obtain ⟨hq1, hq2⟩ := hC.2.2
  have cw := fun W s mark (h : Below w.heap.size w W) hf => bsWorth_any W A B n m c d els q0 q1 q2 q3 s mark (ha.below h) hn hf hC.1 hq2.1 hq2.2
  have hkn := hI.2.2
  rw [Hn.out] at hkn
  obtain ⟨late, hlate⟩ : ∃ l, it.2.2 = l := ⟨_, rfl⟩
  rw [hlate] at HV ⊢
  clear hlate hC hI
  go_enter Tryz.func83, Tryz.ntmps83
  go_wp2
  go_loopw [5, 6, 7, 11] (fun t _ _ i wr => ∃ (k : Nat) (y : World), k ≤ nn ∧ i = .int .i64 k ∧ t = .int .i64 (wSum els q2 it k) ∧ wr = ext ((w.alloc (.cells #[.slice A n c, .slice B m d, .int .i64 q0, .int .i64 q1, .int .i64 q2, .int .i64 q3] 40)).alloc (.cells #[.slice NA nn nc, .slice MA nn mc, .bool late] 87)) y) (fun _ _ _ i _ => nn - (intOf i).toNat)
  case atStart => exact ⟨0, _, by omega, rfl, by simp [wSum, wTo], ext_self _⟩
  case round =>
    obtain ⟨k, y, hk, rfl, rfl, rfl⟩ := hrel
    have hs1 := hsum k hk
    by_cases hlt : k < nn
    · obtain ⟨bn, on, rfl, hbn, hcn⟩ := hN.open_ (by omega)
      obtain ⟨bm, om, rfl, hbm, hcm⟩ := hM.open_ (by omega)
      have hcnk : w.cell? ⟨bn, on + k, none⟩ = some (.string (nmAt it k)) := hcn k hlt
      have hcmk : w.cell? ⟨bm, om + k, none⟩ = some (.int .i64 (mkAt it k)) := by have := hcm k (by omega); rwa [List.getD_eq_getElem?_getD] at this
      have hf : 0 ≤ findE els (nmAt it k) := hkn k hlt
      have hs2 := hsum (k + 1) (by omega)
      have HS := Lib.hid (wSum_succ els q2 it k)
      rw [HS.out] at hs2
      have cs := fun W (h : Below w.heap.size w W) => cw W (nmAt it k) (mkAt it k) h hf
      clear hcn hcm cw hf hkn hsum
      generalize wSum els q2 it k = s at *
      generalize wAt els q2 (nmAt it k) (mkAt it k) = v at *
      generalize nmAt it k = nm at *
      generalize mkAt it k = mk at *
      have hR : ((w.alloc (.cells #[.slice A n c, .slice B m d, .int .i64 q0, .int .i64 q1, .int .i64 q2, .int .i64 q3] 40)).alloc (.cells #[.slice (some ⟨bn, on, none⟩) nn nc, .slice (some ⟨bm, om, none⟩) nn mc, .bool late] 87)).cell? ⟨w.heap.size, 0, none⟩ = some (.slice A n c) ∧ ((w.alloc (.cells #[.slice A n c, .slice B m d, .int .i64 q0, .int .i64 q1, .int .i64 q2, .int .i64 q3] 40)).alloc (.cells #[.slice (some ⟨bn, on, none⟩) nn nc, .slice (some ⟨bm, om, none⟩) nn mc, .bool late] 87)).cell? ⟨w.heap.size, 1, none⟩ = some (.slice B m d) ∧ ((w.alloc (.cells #[.slice A n c, .slice B m d, .int .i64 q0, .int .i64 q1, .int .i64 q2, .int .i64 q3] 40)).alloc (.cells #[.slice (some ⟨bn, on, none⟩) nn nc, .slice (some ⟨bm, om, none⟩) nn mc, .bool late] 87)).cell? ⟨w.heap.size, 2, none⟩ = some (.int .i64 q0) ∧ ((w.alloc (.cells #[.slice A n c, .slice B m d, .int .i64 q0, .int .i64 q1, .int .i64 q2, .int .i64 q3] 40)).alloc (.cells #[.slice (some ⟨bn, on, none⟩) nn nc, .slice (some ⟨bm, om, none⟩) nn mc, .bool late] 87)).cell? ⟨w.heap.size, 3, none⟩ = some (.int .i64 q1) ∧ ((w.alloc (.cells #[.slice A n c, .slice B m d, .int .i64 q0, .int .i64 q1, .int .i64 q2, .int .i64 q3] 40)).alloc (.cells #[.slice (some ⟨bn, on, none⟩) nn nc, .slice (some ⟨bm, om, none⟩) nn mc, .bool late] 87)).cell? ⟨w.heap.size, 4, none⟩ = some (.int .i64 q2) ∧ ((w.alloc (.cells #[.slice A n c, .slice B m d, .int .i64 q0, .int .i64 q1, .int .i64 q2, .int .i64 q3] 40)).alloc (.cells #[.slice (some ⟨bn, on, none⟩) nn nc, .slice (some ⟨bm, om, none⟩) nn mc, .bool late] 87)).cell? ⟨w.heap.size, 5, none⟩ = some (.int .i64 q3) ∧ ((w.alloc (.cells #[.slice A n c, .slice B m d, .int .i64 q0, .int .i64 q1, .int .i64 q2, .int .i64 q3] 40)).alloc (.cells #[.slice (some ⟨bn, on, none⟩) nn nc, .slice (some ⟨bm, om, none⟩) nn mc, .bool late] 87)).cell? ⟨w.heap.size + 1, 0, none⟩ = some (.slice (some ⟨bn, on, none⟩) nn nc) ∧ ((w.alloc (.cells #[.slice A n c, .slice B m d, .int .i64 q0, .int .i64 q1, .int .i64 q2, .int .i64 q3] 40)).alloc (.cells #[.slice (some ⟨bn, on, none⟩) nn nc, .slice (some ⟨bm, om, none⟩) nn mc, .bool late] 87)).cell? ⟨w.heap.size + 1, 1, none⟩ = some (.slice (some ⟨bm, om, none⟩) nn mc) ∧ ((w.alloc (.cells #[.slice A n c, .slice B m d, .int .i64 q0, .int .i64 q1, .int .i64 q2, .int .i64 q3] 40)).alloc (.cells #[.slice (some ⟨bn, on, none⟩) nn nc, .slice (some ⟨bm, om, none⟩) nn mc, .bool late] 87)).cell? ⟨w.heap.size + 1, 2, none⟩ = some (.bool late) ∧ ((w.alloc (.cells #[.slice A n c, .slice B m d, .int .i64 q0, .int .i64 q1, .int .i64 q2, .int .i64 q3] 40)).alloc (.cells #[.slice (some ⟨bn, on, none⟩) nn nc, .slice (some ⟨bm, om, none⟩) nn mc, .bool late] 87)).cell? ⟨bm, om + k, none⟩ = some (.int .i64 mk) := by refine ⟨?_, ?_, ?_, ?_, ?_, ?_, ?_, ?_, ?_, ?_⟩ <;> first | assumption | simp [*, go_sem]
      have hS := fun (W : World) (h : Below ((w.alloc (.cells #[.slice A n c, .slice B m d, .int .i64 q0, .int .i64 q1, .int .i64 q2, .int .i64 q3] 40)).alloc (.cells #[.slice (some ⟨bn, on, none⟩) nn nc, .slice (some ⟨bm, om, none⟩) nn mc, .bool late] 87)).heap.size ((w.alloc (.cells #[.slice A n c, .slice B m d, .int .i64 q0, .int .i64 q1, .int .i64 q2, .int .i64 q3] 40)).alloc (.cells #[.slice (some ⟨bn, on, none⟩) nn nc, .slice (some ⟨bm, om, none⟩) nn mc, .bool late] 87)) W) => (⟨(h.cell (p := ⟨w.heap.size, 0, none⟩) (by first | assumption | (simp [go_sem]; done) | (simp [go_sem]; omega))).trans hR.1, (h.cell (p := ⟨w.heap.size, 1, none⟩) (by first | assumption | (simp [go_sem]; done) | (simp [go_sem]; omega))).trans hR.2.1, (h.cell (p := ⟨w.heap.size, 2, none⟩) (by first | assumption | (simp [go_sem]; done) | (simp [go_sem]; omega))).trans hR.2.2.1, (h.cell (p := ⟨w.heap.size, 3, none⟩) (by first | assumption | (simp [go_sem]; done) | (simp [go_sem]; omega))).trans hR.2.2.2.1, (h.cell (p := ⟨w.heap.size, 4, none⟩) (by first | assumption | (simp [go_sem]; done) | (simp [go_sem]; omega))).trans hR.2.2.2.2.1, (h.cell (p := ⟨w.heap.size, 5, none⟩) (by first | assumption | (simp [go_sem]; done) | (simp [go_sem]; omega))).trans hR.2.2.2.2.2.1, (h.cell (p := ⟨w.heap.size + 1, 0, none⟩) (by first | assumption | (simp [go_sem]; done) | (simp [go_sem]; omega))).trans hR.2.2.2.2.2.2.1, (h.cell (p := ⟨w.heap.size + 1, 1, none⟩) (by first | assumption | (simp [go_sem]; done) | (simp [go_sem]; omega))).trans hR.2.2.2.2.2.2.2.1, (h.cell (p := ⟨w.heap.size + 1, 2, none⟩) (by first | assumption | (simp [go_sem]; done) | (simp [go_sem]; omega))).trans hR.2.2.2.2.2.2.2.2.1, (h.cell (p := ⟨bm, om + k, none⟩) (by first | assumption | (simp [go_sem]; done) | (simp [go_sem]; omega))).trans hR.2.2.2.2.2.2.2.2.2⟩ : W.cell? ⟨w.heap.size, 0, none⟩ = some (.slice A n c) ∧ W.cell? ⟨w.heap.size, 1, none⟩ = some (.slice B m d) ∧ W.cell? ⟨w.heap.size, 2, none⟩ = some (.int .i64 q0) ∧ W.cell? ⟨w.heap.size, 3, none⟩ = some (.int .i64 q1) ∧ W.cell? ⟨w.heap.size, 4, none⟩ = some (.int .i64 q2) ∧ W.cell? ⟨w.heap.size, 5, none⟩ = some (.int .i64 q3) ∧ W.cell? ⟨w.heap.size + 1, 0, none⟩ = some (.slice (some ⟨bn, on, none⟩) nn nc) ∧ W.cell? ⟨w.heap.size + 1, 1, none⟩ = some (.slice (some ⟨bm, om, none⟩) nn mc) ∧ W.cell? ⟨w.heap.size + 1, 2, none⟩ = some (.bool late) ∧ W.cell? ⟨bm, om + k, none⟩ = some (.int .i64 mk))
      clear hR
      have fn1 := ((by repeat (first | exact Below.refl _ _ | assumption | refine bExt ?_ _ | refine bAlloc ?_ _ | refine bDrewN ?_ _ | refine bDrew ?_ | refine bSet ?_ (by first | exact Nat.le_refl _ | omega | (simp; done) | (simp; omega)) _) : Below w.heap.size w (ext ((w.alloc (.cells #[.slice A n c, .slice B m d, .int .i64 q0, .int .i64 q1, .int .i64 q2, .int .i64 q3] 40)).alloc (.cells #[.slice (some ⟨bn, on, none⟩) nn nc, .slice (some ⟨bm, om, none⟩) nn mc, .bool late] 87)) y)).cell (p := ⟨bn, on + k, none⟩) hbn).trans hcnk
      have fm1 := ((by repeat (first | exact Below.refl _ _ | assumption | refine bExt ?_ _ | refine bAlloc ?_ _ | refine bDrewN ?_ _ | refine bDrew ?_ | refine bSet ?_ (by first | exact Nat.le_refl _ | omega | (simp; done) | (simp; omega)) _) : Below w.heap.size w (ext ((w.alloc (.cells #[.slice A n c, .slice B m d, .int .i64 q0, .int .i64 q1, .int .i64 q2, .int .i64 q3] 40)).alloc (.cells #[.slice (some ⟨bn, on, none⟩) nn nc, .slice (some ⟨bm, om, none⟩) nn mc, .bool late] 87)) y)).cell (p := ⟨bm, om + k, none⟩) hbm).trans hcmk
      have e0 : IntKind.i64.wrap (s + v) = s + v := IntWalk.i64_in _ (by omega)
      go_wp2
      go_region_held3 (fun w' => w'.cell? ⟨w.heap.size, 0, none⟩ = some (.slice A n c) ∧ w'.cell? ⟨w.heap.size, 1, none⟩ = some (.slice B m d) ∧ w'.cell? ⟨w.heap.size, 2, none⟩ = some (.int .i64 q0) ∧ w'.cell? ⟨w.heap.size, 3, none⟩ = some (.int .i64 q1) ∧ w'.cell? ⟨w.heap.size, 4, none⟩ = some (.int .i64 q2) ∧ w'.cell? ⟨w.heap.size, 5, none⟩ = some (.int .i64 q3) ∧ w'.cell? ⟨w.heap.size + 1, 0, none⟩ = some (.slice (some ⟨bn, on, none⟩) nn nc) ∧ w'.cell? ⟨w.heap.size + 1, 1, none⟩ = some (.slice (some ⟨bm, om, none⟩) nn mc) ∧ w'.cell? ⟨w.heap.size + 1, 2, none⟩ = some (.bool late) ∧ w'.cell? ⟨bm, om + k, none⟩ = some (.int .i64 mk)) (exact hS _ (by repeat (first | exact Below.refl _ _ | assumption | refine bExt ?_ _ | refine bAlloc ?_ _ | refine bDrewN ?_ _ | refine bDrew ?_ | refine bSet ?_ (by first | exact Nat.le_refl _ | omega | (simp; done) | (simp; omega)) _))) (first | (go_at_call 115; ((with_reducible refine (cs _ (by repeat (first | exact Below.refl _ _ | assumption | refine bExt ?_ _ | refine bAlloc ?_ _ | refine bDrewN ?_ _ | refine bDrew ?_ | refine bSet ?_ (by first | exact Nat.le_refl _ | omega | (simp; done) | (simp; omega)) _))).mono ?_); rintro e w' ⟨rfl, y3, rfl⟩)))
      go_wp2
      go_roundw
      case rel => exact ⟨k + 1, _, by omega, by go_num, by rw [HS.out], (ext_ex (by repeat (first | exact Below.refl _ _ | assumption | refine bExt ?_ _ | refine bAlloc ?_ _ | refine bDrewN ?_ _ | refine bDrew ?_ | refine bSet ?_ (by first | exact Nat.le_refl _ | omega | (simp; done) | (simp; omega)) _))).choose_spec⟩
      case measure => simp [intOf]; omega
    · obtain rfl : k = nn := by omega
      clear hsum cw hkn
      generalize wSum els q2 it k = s at *
      cases late
      · go_wp2
        go_ret
        exact ⟨ret_int (by rw [HV.out]; rfl), ext_ex (by repeat (first | exact Below.refl _ _ | assumption | refine bExt ?_ _ | refine bAlloc ?_ _ | refine bDrewN ?_ _ | refine bDrew ?_ | refine bSet ?_ (by first | exact Nat.le_refl _ | omega | (simp; done) | (simp; omega)) _))⟩
      · have e1 : IntKind.i64.wrap (s * (100 + q1)) = s * (100 + q1) := IntWalk.i64_in _ (by omega)
        have cr := fun W => poRound_any (s * (100 + q1)) 100 W (by omega) (by omega) (by omega) (by omega)
        go_wp2_with ((go_at_call 116; ((with_reducible refine (cr _).mono ?_); rintro e w' ⟨rfl, rfl⟩)))
        go_ret
        exact ⟨ret_int (by rw [HV.out]; rfl), ext_ex (by repeat (first | exact Below.refl _ _ | assumption | refine bExt ?_ _ | refine bAlloc ?_ _ | refine bDrewN ?_ _ | refine bDrew ?_ | refine bSet ?_ (by first | exact Nat.le_refl _ | omega | (simp; done) | (simp; omega)) _))⟩
end Go.Proofs.YtfmidngndddfiaaGreatDoor
namespace Go.Proofs.YtfmidngndddfiaaGreatDoor
open Go.RowKit
set_option maxHeartbeats 2000000 in
theorem worths_any (w : World) (A B : Option Addr) (n m c d : Nat) (els : List El) (q0 q1 q2 q3 : Int) (NA MA : Option Addr) (nn nc mn mc : Nat) (it : It) (ha : RdEl w A n els) (hn : n ≤ 1099511627776) (hC : CodeG els q0 q1 q2) (hN : RdT w NA nn it.1) (hM : RdI w MA mn it.2.1) (hI : ItG els it) :
    Calls Tryz.prog 124 #[.agg #[.slice A n c, .slice B m d, .int .i64 q0, .int .i64 q1, .int .i64 q2, .int .i64 q3], .agg #[.slice NA nn nc, .slice MA mn mc, .bool it.2.2]] w (RetI w (wTo els q2 it nn)) := by
  have Hn := Lib.hid hN.len
  have Hm := Lib.hid hM.len
  have hI1 := hI.1.2
  have hIm := hI.2.1
  rw [Hn.out] at hI1 hIm
  rw [Hm.out] at hIm
  obtain rfl := hIm.symm
  obtain ⟨hq1, hq2⟩ := hC.2.2
  have hkn := hI.2.2
  rw [Hn.out] at hkn
  have hB := hC.1
  have Hel := Lib.hid ha.len
  obtain ⟨late, hlate⟩ : ∃ l, it.2.2 = l := ⟨_, rfl⟩
  rw [hlate]
  clear hlate hC hI
  go_enter Tryz.func124, Tryz.ntmps124
  go_wp2
  go_loopw [5, 6, 7, 12] (fun t _ _ i wr => ∃ (k : Nat) (D : Option Addr) (dc : Nat) (y : World), k ≤ nn ∧ i = .int .i64 k ∧ t = .slice D k dc ∧ wr = ext ((w.alloc (.cells #[.slice A n c, .slice B m d, .int .i64 q0, .int .i64 q1, .int .i64 q2, .int .i64 q3] 40)).alloc (.cells #[.slice NA nn nc, .slice MA nn mc, .bool late] 87)) y ∧ OwI ((w.alloc (.cells #[.slice A n c, .slice B m d, .int .i64 q0, .int .i64 q1, .int .i64 q2, .int .i64 q3] 40)).alloc (.cells #[.slice NA nn nc, .slice MA nn mc, .bool late] 87)).heap.size (ext ((w.alloc (.cells #[.slice A n c, .slice B m d, .int .i64 q0, .int .i64 q1, .int .i64 q2, .int .i64 q3] 40)).alloc (.cells #[.slice NA nn nc, .slice MA nn mc, .bool late] 87)) y) D k dc (wTo els q2 it k)) (fun _ _ _ i _ => nn - (intOf i).toNat)
  case atStart => 
    obtain ⟨y, hy⟩ := ext_ex (show Below ((w.alloc (.cells #[.slice A n c, .slice B m d, .int .i64 q0, .int .i64 q1, .int .i64 q2, .int .i64 q3] 40)).alloc (.cells #[.slice NA nn nc, .slice MA nn mc, .bool late] 87)).heap.size ((w.alloc (.cells #[.slice A n c, .slice B m d, .int .i64 q0, .int .i64 q1, .int .i64 q2, .int .i64 q3] 40)).alloc (.cells #[.slice NA nn nc, .slice MA nn mc, .bool late] 87)) (((w.alloc (.cells #[.slice A n c, .slice B m d, .int .i64 q0, .int .i64 q1, .int .i64 q2, .int .i64 q3] 40)).alloc (.cells #[.slice NA nn nc, .slice MA nn mc, .bool late] 87)).alloc (.cells #[] 3)) from by repeat (first | exact Below.refl _ _ | assumption | refine bExt ?_ _ | refine bAlloc ?_ _ | refine bDrewN ?_ _ | refine bDrew ?_ | refine bSet ?_ (by first | exact Nat.le_refl _ | omega | (simp; done) | (simp; omega)) _))
    have o0 := OwI.lit_ (Below.refl _ ((w.alloc (.cells #[.slice A n c, .slice B m d, .int .i64 q0, .int .i64 q1, .int .i64 q2, .int .i64 q3] 40)).alloc (.cells #[.slice NA nn nc, .slice MA nn mc, .bool late] 87))) [] (by simp [maxLen]) #[] rfl
    rw [hy] at o0
    exact ⟨0, _, 0, y, by omega, rfl, rfl, hy, by simpa [go_sem, wTo] using o0⟩
  case round =>
    obtain ⟨k, D, dc, y, hk, rfl, rfl, rfl, ho⟩ := hrel
    by_cases hlt : k < nn
    · obtain ⟨bn, on, rfl, hbn, hcn⟩ := hN.open_ (by omega)
      obtain ⟨bm, om, rfl, hbm, hcm⟩ := hM.open_ (by omega)
      have hcnk : w.cell? ⟨bn, on + k, none⟩ = some (.string (nmAt it k)) := hcn k hlt
      have hcmk : w.cell? ⟨bm, om + k, none⟩ = some (.int .i64 (mkAt it k)) := by have := hcm k (by omega); rwa [List.getD_eq_getElem?_getD] at this
      obtain ⟨i, hfi, hin⟩ := findE_nat (show 0 ≤ findE els (nmAt it k) from hkn k hlt)
      have HS := Lib.hid (show wTo els q2 it (k + 1) = wTo els q2 it k ++ [worthV q2 (els[i]?.getD zEl).2.2.2 (mkAt it k)] by rw [wTo_succ, wAt, hfi]; rfl)
      have hbd := hB i hin
      rw [Hel.out] at hin
      have ha0 := ha
      obtain ⟨b, off, rfl, hb0, hc0, hc1, hc2, hc3⟩ := ha.at_ i hin
      have cf := fun W (h : Below w.heap.size w W) => findElement_any W (some ⟨b, off, none⟩) B n m c d els q0 q1 q2 q3 (nmAt it k) (ha0.below h) hn
      simp only [hfi] at cf
      clear hcn hcm hkn hfi ha hB
      have hkb : k ≤ 1099511627776 := by omega
      generalize wTo els q2 it k = out at *
      generalize nmAt it k = nm at *
      generalize mkAt it k = mk at *
      generalize els[i]?.getD zEl = E at *
      obtain ⟨e0, e1, e2, e3⟩ := E
      simp only at hc0 hc1 hc2 hc3 hbd HS
      have cw := fun W => worthOf_any W (some ⟨b, off, none⟩) B n m c d q0 q1 q2 q3 e0 e1 e2 e3 mk hbd.1 hbd.2 hq2.1 hq2.2
      generalize worthV q2 e3 mk = v at *
      have hR : ((w.alloc (.cells #[.slice (some ⟨b, off, none⟩) n c, .slice B m d, .int .i64 q0, .int .i64 q1, .int .i64 q2, .int .i64 q3] 40)).alloc (.cells #[.slice (some ⟨bn, on, none⟩) nn nc, .slice (some ⟨bm, om, none⟩) nn mc, .bool late] 87)).cell? ⟨w.heap.size, 0, none⟩ = some (.slice (some ⟨b, off, none⟩) n c) ∧ ((w.alloc (.cells #[.slice (some ⟨b, off, none⟩) n c, .slice B m d, .int .i64 q0, .int .i64 q1, .int .i64 q2, .int .i64 q3] 40)).alloc (.cells #[.slice (some ⟨bn, on, none⟩) nn nc, .slice (some ⟨bm, om, none⟩) nn mc, .bool late] 87)).cell? ⟨w.heap.size, 1, none⟩ = some (.slice B m d) ∧ ((w.alloc (.cells #[.slice (some ⟨b, off, none⟩) n c, .slice B m d, .int .i64 q0, .int .i64 q1, .int .i64 q2, .int .i64 q3] 40)).alloc (.cells #[.slice (some ⟨bn, on, none⟩) nn nc, .slice (some ⟨bm, om, none⟩) nn mc, .bool late] 87)).cell? ⟨w.heap.size, 2, none⟩ = some (.int .i64 q0) ∧ ((w.alloc (.cells #[.slice (some ⟨b, off, none⟩) n c, .slice B m d, .int .i64 q0, .int .i64 q1, .int .i64 q2, .int .i64 q3] 40)).alloc (.cells #[.slice (some ⟨bn, on, none⟩) nn nc, .slice (some ⟨bm, om, none⟩) nn mc, .bool late] 87)).cell? ⟨w.heap.size, 3, none⟩ = some (.int .i64 q1) ∧ ((w.alloc (.cells #[.slice (some ⟨b, off, none⟩) n c, .slice B m d, .int .i64 q0, .int .i64 q1, .int .i64 q2, .int .i64 q3] 40)).alloc (.cells #[.slice (some ⟨bn, on, none⟩) nn nc, .slice (some ⟨bm, om, none⟩) nn mc, .bool late] 87)).cell? ⟨w.heap.size, 4, none⟩ = some (.int .i64 q2) ∧ ((w.alloc (.cells #[.slice (some ⟨b, off, none⟩) n c, .slice B m d, .int .i64 q0, .int .i64 q1, .int .i64 q2, .int .i64 q3] 40)).alloc (.cells #[.slice (some ⟨bn, on, none⟩) nn nc, .slice (some ⟨bm, om, none⟩) nn mc, .bool late] 87)).cell? ⟨w.heap.size, 5, none⟩ = some (.int .i64 q3) ∧ ((w.alloc (.cells #[.slice (some ⟨b, off, none⟩) n c, .slice B m d, .int .i64 q0, .int .i64 q1, .int .i64 q2, .int .i64 q3] 40)).alloc (.cells #[.slice (some ⟨bn, on, none⟩) nn nc, .slice (some ⟨bm, om, none⟩) nn mc, .bool late] 87)).cell? ⟨w.heap.size + 1, 0, none⟩ = some (.slice (some ⟨bn, on, none⟩) nn nc) ∧ ((w.alloc (.cells #[.slice (some ⟨b, off, none⟩) n c, .slice B m d, .int .i64 q0, .int .i64 q1, .int .i64 q2, .int .i64 q3] 40)).alloc (.cells #[.slice (some ⟨bn, on, none⟩) nn nc, .slice (some ⟨bm, om, none⟩) nn mc, .bool late] 87)).cell? ⟨w.heap.size + 1, 1, none⟩ = some (.slice (some ⟨bm, om, none⟩) nn mc) ∧ ((w.alloc (.cells #[.slice (some ⟨b, off, none⟩) n c, .slice B m d, .int .i64 q0, .int .i64 q1, .int .i64 q2, .int .i64 q3] 40)).alloc (.cells #[.slice (some ⟨bn, on, none⟩) nn nc, .slice (some ⟨bm, om, none⟩) nn mc, .bool late] 87)).cell? ⟨w.heap.size + 1, 2, none⟩ = some (.bool late) ∧ ((w.alloc (.cells #[.slice (some ⟨b, off, none⟩) n c, .slice B m d, .int .i64 q0, .int .i64 q1, .int .i64 q2, .int .i64 q3] 40)).alloc (.cells #[.slice (some ⟨bn, on, none⟩) nn nc, .slice (some ⟨bm, om, none⟩) nn mc, .bool late] 87)).cell? ⟨bm, om + k, none⟩ = some (.int .i64 mk) ∧ ((w.alloc (.cells #[.slice (some ⟨b, off, none⟩) n c, .slice B m d, .int .i64 q0, .int .i64 q1, .int .i64 q2, .int .i64 q3] 40)).alloc (.cells #[.slice (some ⟨bn, on, none⟩) nn nc, .slice (some ⟨bm, om, none⟩) nn mc, .bool late] 87)).cell? ⟨b, off + i * 4, none⟩ = some (.string e0) ∧ ((w.alloc (.cells #[.slice (some ⟨b, off, none⟩) n c, .slice B m d, .int .i64 q0, .int .i64 q1, .int .i64 q2, .int .i64 q3] 40)).alloc (.cells #[.slice (some ⟨bn, on, none⟩) nn nc, .slice (some ⟨bm, om, none⟩) nn mc, .bool late] 87)).cell? ⟨b, off + i * 4 + 1, none⟩ = some (.int .i64 e1) ∧ ((w.alloc (.cells #[.slice (some ⟨b, off, none⟩) n c, .slice B m d, .int .i64 q0, .int .i64 q1, .int .i64 q2, .int .i64 q3] 40)).alloc (.cells #[.slice (some ⟨bn, on, none⟩) nn nc, .slice (some ⟨bm, om, none⟩) nn mc, .bool late] 87)).cell? ⟨b, off + i * 4 + 2, none⟩ = some (.int .i64 e2) ∧ ((w.alloc (.cells #[.slice (some ⟨b, off, none⟩) n c, .slice B m d, .int .i64 q0, .int .i64 q1, .int .i64 q2, .int .i64 q3] 40)).alloc (.cells #[.slice (some ⟨bn, on, none⟩) nn nc, .slice (some ⟨bm, om, none⟩) nn mc, .bool late] 87)).cell? ⟨b, off + i * 4 + 3, none⟩ = some (.int .i64 e3) := by refine ⟨?_, ?_, ?_, ?_, ?_, ?_, ?_, ?_, ?_, ?_, ?_, ?_, ?_, ?_⟩ <;> first | assumption | simp [*, go_sem]
      have hS := fun (W : World) (h : Below ((w.alloc (.cells #[.slice (some ⟨b, off, none⟩) n c, .slice B m d, .int .i64 q0, .int .i64 q1, .int .i64 q2, .int .i64 q3] 40)).alloc (.cells #[.slice (some ⟨bn, on, none⟩) nn nc, .slice (some ⟨bm, om, none⟩) nn mc, .bool late] 87)).heap.size ((w.alloc (.cells #[.slice (some ⟨b, off, none⟩) n c, .slice B m d, .int .i64 q0, .int .i64 q1, .int .i64 q2, .int .i64 q3] 40)).alloc (.cells #[.slice (some ⟨bn, on, none⟩) nn nc, .slice (some ⟨bm, om, none⟩) nn mc, .bool late] 87)) W) => (⟨(h.cell (p := ⟨w.heap.size, 0, none⟩) (by first | assumption | (simp [go_sem]; done) | (simp [go_sem]; omega))).trans hR.1, (h.cell (p := ⟨w.heap.size, 1, none⟩) (by first | assumption | (simp [go_sem]; done) | (simp [go_sem]; omega))).trans hR.2.1, (h.cell (p := ⟨w.heap.size, 2, none⟩) (by first | assumption | (simp [go_sem]; done) | (simp [go_sem]; omega))).trans hR.2.2.1, (h.cell (p := ⟨w.heap.size, 3, none⟩) (by first | assumption | (simp [go_sem]; done) | (simp [go_sem]; omega))).trans hR.2.2.2.1, (h.cell (p := ⟨w.heap.size, 4, none⟩) (by first | assumption | (simp [go_sem]; done) | (simp [go_sem]; omega))).trans hR.2.2.2.2.1, (h.cell (p := ⟨w.heap.size, 5, none⟩) (by first | assumption | (simp [go_sem]; done) | (simp [go_sem]; omega))).trans hR.2.2.2.2.2.1, (h.cell (p := ⟨w.heap.size + 1, 0, none⟩) (by first | assumption | (simp [go_sem]; done) | (simp [go_sem]; omega))).trans hR.2.2.2.2.2.2.1, (h.cell (p := ⟨w.heap.size + 1, 1, none⟩) (by first | assumption | (simp [go_sem]; done) | (simp [go_sem]; omega))).trans hR.2.2.2.2.2.2.2.1, (h.cell (p := ⟨w.heap.size + 1, 2, none⟩) (by first | assumption | (simp [go_sem]; done) | (simp [go_sem]; omega))).trans hR.2.2.2.2.2.2.2.2.1, (h.cell (p := ⟨bm, om + k, none⟩) (by first | assumption | (simp [go_sem]; done) | (simp [go_sem]; omega))).trans hR.2.2.2.2.2.2.2.2.2.1, (h.cell (p := ⟨b, off + i * 4, none⟩) (by first | assumption | (simp [go_sem]; done) | (simp [go_sem]; omega))).trans hR.2.2.2.2.2.2.2.2.2.2.1, (h.cell (p := ⟨b, off + i * 4 + 1, none⟩) (by first | assumption | (simp [go_sem]; done) | (simp [go_sem]; omega))).trans hR.2.2.2.2.2.2.2.2.2.2.2.1, (h.cell (p := ⟨b, off + i * 4 + 2, none⟩) (by first | assumption | (simp [go_sem]; done) | (simp [go_sem]; omega))).trans hR.2.2.2.2.2.2.2.2.2.2.2.2.1, (h.cell (p := ⟨b, off + i * 4 + 3, none⟩) (by first | assumption | (simp [go_sem]; done) | (simp [go_sem]; omega))).trans hR.2.2.2.2.2.2.2.2.2.2.2.2.2⟩ : W.cell? ⟨w.heap.size, 0, none⟩ = some (.slice (some ⟨b, off, none⟩) n c) ∧ W.cell? ⟨w.heap.size, 1, none⟩ = some (.slice B m d) ∧ W.cell? ⟨w.heap.size, 2, none⟩ = some (.int .i64 q0) ∧ W.cell? ⟨w.heap.size, 3, none⟩ = some (.int .i64 q1) ∧ W.cell? ⟨w.heap.size, 4, none⟩ = some (.int .i64 q2) ∧ W.cell? ⟨w.heap.size, 5, none⟩ = some (.int .i64 q3) ∧ W.cell? ⟨w.heap.size + 1, 0, none⟩ = some (.slice (some ⟨bn, on, none⟩) nn nc) ∧ W.cell? ⟨w.heap.size + 1, 1, none⟩ = some (.slice (some ⟨bm, om, none⟩) nn mc) ∧ W.cell? ⟨w.heap.size + 1, 2, none⟩ = some (.bool late) ∧ W.cell? ⟨bm, om + k, none⟩ = some (.int .i64 mk) ∧ W.cell? ⟨b, off + i * 4, none⟩ = some (.string e0) ∧ W.cell? ⟨b, off + i * 4 + 1, none⟩ = some (.int .i64 e1) ∧ W.cell? ⟨b, off + i * 4 + 2, none⟩ = some (.int .i64 e2) ∧ W.cell? ⟨b, off + i * 4 + 3, none⟩ = some (.int .i64 e3))
      clear hR
      have fn1 := ((by repeat (first | exact Below.refl _ _ | assumption | refine bExt ?_ _ | refine bAlloc ?_ _ | refine bDrewN ?_ _ | refine bDrew ?_ | refine bSet ?_ (by first | exact Nat.le_refl _ | omega | (simp; done) | (simp; omega)) _) : Below w.heap.size w (ext ((w.alloc (.cells #[.slice (some ⟨b, off, none⟩) n c, .slice B m d, .int .i64 q0, .int .i64 q1, .int .i64 q2, .int .i64 q3] 40)).alloc (.cells #[.slice (some ⟨bn, on, none⟩) nn nc, .slice (some ⟨bm, om, none⟩) nn mc, .bool late] 87)) y)).cell (p := ⟨bn, on + k, none⟩) hbn).trans hcnk
      have fm1 := ((by repeat (first | exact Below.refl _ _ | assumption | refine bExt ?_ _ | refine bAlloc ?_ _ | refine bDrewN ?_ _ | refine bDrew ?_ | refine bSet ?_ (by first | exact Nat.le_refl _ | omega | (simp; done) | (simp; omega)) _) : Below w.heap.size w (ext ((w.alloc (.cells #[.slice (some ⟨b, off, none⟩) n c, .slice B m d, .int .i64 q0, .int .i64 q1, .int .i64 q2, .int .i64 q3] 40)).alloc (.cells #[.slice (some ⟨bn, on, none⟩) nn nc, .slice (some ⟨bm, om, none⟩) nn mc, .bool late] 87)) y)).cell (p := ⟨bm, om + k, none⟩) hbm).trans hcmk
      go_wp2
      go_region_held3 (fun w' => w'.cell? ⟨w.heap.size, 0, none⟩ = some (.slice (some ⟨b, off, none⟩) n c) ∧ w'.cell? ⟨w.heap.size, 1, none⟩ = some (.slice B m d) ∧ w'.cell? ⟨w.heap.size, 2, none⟩ = some (.int .i64 q0) ∧ w'.cell? ⟨w.heap.size, 3, none⟩ = some (.int .i64 q1) ∧ w'.cell? ⟨w.heap.size, 4, none⟩ = some (.int .i64 q2) ∧ w'.cell? ⟨w.heap.size, 5, none⟩ = some (.int .i64 q3) ∧ w'.cell? ⟨w.heap.size + 1, 0, none⟩ = some (.slice (some ⟨bn, on, none⟩) nn nc) ∧ w'.cell? ⟨w.heap.size + 1, 1, none⟩ = some (.slice (some ⟨bm, om, none⟩) nn mc) ∧ w'.cell? ⟨w.heap.size + 1, 2, none⟩ = some (.bool late) ∧ w'.cell? ⟨bm, om + k, none⟩ = some (.int .i64 mk) ∧ w'.cell? ⟨b, off + i * 4, none⟩ = some (.string e0) ∧ w'.cell? ⟨b, off + i * 4 + 1, none⟩ = some (.int .i64 e1) ∧ w'.cell? ⟨b, off + i * 4 + 2, none⟩ = some (.int .i64 e2) ∧ w'.cell? ⟨b, off + i * 4 + 3, none⟩ = some (.int .i64 e3)) (exact hS _ (by repeat (first | exact Below.refl _ _ | assumption | refine bExt ?_ _ | refine bAlloc ?_ _ | refine bDrewN ?_ _ | refine bDrew ?_ | refine bSet ?_ (by first | exact Nat.le_refl _ | omega | (simp; done) | (simp; omega)) _))) (first | (go_at_call 153; ((with_reducible refine (cf _ (by repeat (first | exact Below.refl _ _ | assumption | refine bExt ?_ _ | refine bAlloc ?_ _ | refine bDrewN ?_ _ | refine bDrew ?_ | refine bSet ?_ (by first | exact Nat.le_refl _ | omega | (simp; done) | (simp; omega)) _))).mono ?_); rintro e w' ⟨rfl, y3, rfl⟩)) | (go_at_call 154; ((with_reducible refine (cw _).mono ?_); rintro e w' ⟨rfl, y4, rfl⟩)) | (refine step_app_int ((w.alloc (.cells #[.slice (some ⟨b, off, none⟩) n c, .slice B m d, .int .i64 q0, .int .i64 q1, .int .i64 q2, .int .i64 q3] 40)).alloc (.cells #[.slice (some ⟨bn, on, none⟩) nn nc, .slice (some ⟨bm, om, none⟩) nn mc, .bool late] 87)) rfl _ _ rfl D _ dc out rfl ho ?_ ?_ _ 1 1 [v] rfl (RdI.one_ ?_ ?_) (Below.refl _ _) (by omega) ?_; (focus (repeat (first | exact Below.refl _ _ | assumption | refine bExt ?_ _ | refine bAlloc ?_ _ | refine bDrewN ?_ _ | refine bDrew ?_ | refine bSet ?_ (by first | exact Nat.le_refl _ | omega | (simp; done) | (simp; omega)) _))); (focus (repeat (first | exact Below.refl _ _ | assumption | refine bExt ?_ _ | refine bAlloc ?_ _ | refine bDrewN ?_ _ | refine bDrew ?_ | refine bSet ?_ (by first | exact Nat.le_refl _ | omega | (simp; done) | (simp; omega)) _))); (focus (simp [go_sem])); (focus (simp [go_sem])); intro D' dc' z ho' hg hd))
      go_wp2
      rw [← HS.out] at ho'
      go_roundw
      case rel => exact ⟨k + 1, D', dc', _, by omega, by go_num, rfl, rfl, ho'⟩
      case measure => simp [intOf]; omega
    · obtain rfl : k = nn := by omega
      go_wp2
      go_ret
      exact RetI.mk_ ho (by simp [go_sem]; omega) (by repeat (first | exact Below.refl _ _ | assumption | refine bExt ?_ _ | refine bAlloc ?_ _ | refine bDrewN ?_ _ | refine bDrew ?_ | refine bSet ?_ (by first | exact Nat.le_refl _ | omega | (simp; done) | (simp; omega)) _))
theorem fullBase_any (w : World) (A B : Option Addr) (n m c d : Nat) (els : List El) (q0 q1 q2 q3 : Int) (NA MA : Option Addr) (nn nc mn mc : Nat) (it : It) (ha : RdEl w A n els) (hn : n ≤ 1099511627776) (hC : CodeG els q0 q1 q2) (hN : RdT w NA nn it.1) (hM : RdI w MA mn it.2.1) (hI : ItG els it) :
    Calls Tryz.prog 92 #[.agg #[.slice A n c, .slice B m d, .int .i64 q0, .int .i64 q1, .int .i64 q2, .int .i64 q3], .agg #[.slice NA nn nc, .slice MA mn mc, .bool it.2.2]] w fun e w' => e = .returned (.int .i64 (fullV els q1 q2 it)) ∧ ∃ y, w' = ext w y := by
  have Hn := Lib.hid hN.len
  have hbd := wTo_bd hC hI
  have hmul := full_mul hC hI
  rw [Hn.out] at hmul
  have hI1 := hI.1.2
  rw [Hn.out] at hI1
  have HV : Hid (fullV els q1 q2 it = if it.2.2 then roundV (wSum els q2 it nn * (100 + q1)) 100 else wSum els q2 it nn) := by unfold Hid fullV; rw [Hn.out]
  have cw := fun W (h : Below w.heap.size w W) => worths_any W A B n m c d els q0 q1 q2 q3 NA MA nn nc mn mc it (ha.below h) hn hC (hN.below h) (hM.below h) hI
  have HB : Hid (∀ x ∈ wTo els q2 it nn, -100000 ≤ x ∧ x ≤ 100000) := fun x hx => by have := hbd nn (by rw [Hn.out]; exact Nat.le_refl _) x hx; omega
  have HE := Lib.hid (wSum_to els q2 it nn)
  have hln := wTo_len els q2 it nn
  obtain ⟨hq1, hq2⟩ := hC.2.2
  obtain ⟨late, hlate⟩ : ∃ l, it.2.2 = l := ⟨_, rfl⟩
  rw [hlate] at HV cw ⊢
  clear hlate hbd
  generalize hl : wTo els q2 it nn = l at *
  clear hl
  generalize wSum els q2 it nn = s at *
  cases late
  · go_enter Tryz.func92, Tryz.ntmps92
    go_wp2_with (first | (go_at_call 124; ((with_reducible refine (cw _ (by repeat (first | exact Below.refl _ _ | assumption | refine bExt ?_ _ | refine bAlloc ?_ _ | refine bDrewN ?_ _ | refine bDrew ?_ | refine bSet ?_ (by first | exact Nat.le_refl _ | omega | (simp; done) | (simp; omega)) _))).mono ?_); rintro e w' ⟨A1, n1, c1, x1, rfl, rfl, o1⟩; (obtain rfl : n1 = nn := o1.len.symm.trans hln))) | (go_at_call 106; ((with_reducible refine (sumInts_any _ _ _ _ _ o1.rd (by omega) HB.out).mono ?_); rintro e w' ⟨rfl, rfl⟩)))
    go_ret
    exact ⟨ret_int (by rw [HV.out, HE.out]; rfl), ext_ex (by repeat (first | exact Below.refl _ _ | assumption | refine bExt ?_ _ | refine bAlloc ?_ _ | refine bDrewN ?_ _ | refine bDrew ?_ | refine bSet ?_ (by first | exact Nat.le_refl _ | omega | (simp; done) | (simp; omega)) _))⟩
  · have e1 : IntKind.i64.wrap (s * (100 + q1)) = s * (100 + q1) := IntWalk.i64_in _ (by omega)
    have cr := fun W => roundDiv_any (s * (100 + q1)) 100 W (by omega) (by omega) (by omega) (by omega)
    rw [← HE.out] at cr e1
    go_enter Tryz.func92, Tryz.ntmps92
    go_wp2_with (first | (go_at_call 124; ((with_reducible refine (cw _ (by repeat (first | exact Below.refl _ _ | assumption | refine bExt ?_ _ | refine bAlloc ?_ _ | refine bDrewN ?_ _ | refine bDrew ?_ | refine bSet ?_ (by first | exact Nat.le_refl _ | omega | (simp; done) | (simp; omega)) _))).mono ?_); rintro e w' ⟨A1, n1, c1, x1, rfl, rfl, o1⟩; (obtain rfl : n1 = nn := o1.len.symm.trans hln))) | (go_at_call 106; ((with_reducible refine (sumInts_any _ _ _ _ _ o1.rd (by omega) HB.out).mono ?_); rintro e w' ⟨rfl, rfl⟩)) | (go_at_call 94; ((with_reducible refine (cr _).mono ?_); rintro e w' ⟨rfl, rfl⟩)))
    go_ret
    exact ⟨ret_int (by rw [HV.out, ← HE.out]; rfl), ext_ex (by repeat (first | exact Below.refl _ _ | assumption | refine bExt ?_ _ | refine bAlloc ?_ _ | refine bDrewN ?_ _ | refine bDrew ?_ | refine bSet ?_ (by first | exact Nat.le_refl _ | omega | (simp; done) | (simp; omega)) _))⟩
end Go.Proofs.YtfmidngndddfiaaGreatDoor
namespace Go.Proofs.YtfmidngndddfiaaGreatDoor
open Go.RowKit
/-- Items that are all known to a code. -/
def ItsG (els : List El) (its : List It) : Prop := ∀ j, j < its.length → ItG els (its[j]?.getD zIt)
theorem repHit_no {its : List It} {k j : Nat} (h : ((nmAt (its[j]?.getD zIt) 0).toList == (nmAt (its[k]?.getD zIt) 0).toList) = false) : repHit its k j = false := by rw [repHit, h]; rfl
theorem repHit_3 {its : List It} {k j : Nat} (h : mkAt (its[j]?.getD zIt) 0 = 3) : repHit its k j = false := by rw [repHit, h]; simp
theorem repHit_yes {its : List It} {k j : Nat} (h : ((nmAt (its[j]?.getD zIt) 0).toList == (nmAt (its[k]?.getD zIt) 0).toList) = true) (h2 : ¬ mkAt (its[j]?.getD zIt) 0 = 3) : repHit its k j = true := by rw [repHit, h]; simp [h2]
set_option maxHeartbeats 1000000 in
theorem bsRepeats_any (w : World) (A : Option Addr) (n c : Nat) (els : List El) (its : List It) (k : Nat) (ha : RdIt w A n its) (hk : k < n) (hn : n ≤ 1099511627776) (hc : n ≤ c) (hI : ItsG els its) :
    Calls Tryz.prog 84 #[.slice A n c, .int .i64 k] w fun e w' => e = .returned (.int .i64 (repTo its k k)) ∧ ∃ y, w' = ext w y := by
  have Hl := Lib.hid ha.len
  go_enter Tryz.func84, Tryz.ntmps84
  go_wp2
  go_loopw [5, 7, 12] (fun t _ i wr => ∃ (j : Nat) (y : World), j ≤ k ∧ i = .int .i64 j ∧ t = .int .i64 (repTo its k j) ∧ wr = ext w y) (fun _ _ i _ => k - (intOf i).toNat)
  case atStart => exact ⟨0, _, by omega, rfl, rfl, ext_self _⟩
  case round =>
    obtain ⟨j, y, hj, rfl, rfl, rfl⟩ := hrel
    by_cases hlt : j < k
    · have hjn : j < n := by omega
      obtain ⟨b, off, NA, nn, nc, MA, mn, mc, rfl, hb0, hc0, hc1, hc2, hN, hM, _, _⟩ := ha.at_ j hjn
      obtain ⟨b', off', NK, nk, ck, MK, mk, dk, e, hbk, hk0, hk1, hk2, hNk, hMk, _, _⟩ := ha.at_ k hk
      obtain ⟨rfl, rfl⟩ : b = b' ∧ off = off' := by simpa using e
      clear e
      have hj1 := hI j (by rw [Hl.out]; exact hjn)
      have hk1' := hI k (by rw [Hl.out]; exact hk)
      have HY := @repHit_yes its k j
      have HN := @repHit_no its k j
      have H3 := @repHit_3 its k j
      have HA := @repTo_yes its k j
      have HB := @repTo_no its k j
      have hbd := repTo_bd its k j
      have nn1 : 1 ≤ nn := by rw [← hN.len]; exact hj1.1.1
      have mn1 : 1 ≤ mn := by rw [← hM.len, hj1.2.1]; exact hj1.1.1
      have nk1 : 1 ≤ nk := by rw [← hNk.len]; exact hk1'.1.1
      obtain ⟨bn, on, rfl, hbn, hcn⟩ := hN.open_ (by omega)
      obtain ⟨bm, om, rfl, hbm, hcm⟩ := hM.open_ (by omega)
      obtain ⟨bo, oo, rfl, hbo, hco⟩ := hNk.open_ (by omega)
      have c0 : w.cell? ⟨bn, on, none⟩ = some (.string (nmAt (its[j]?.getD zIt) 0)) := hcn 0 nn1
      have c1 : w.cell? ⟨bm, om, none⟩ = some (.int .i64 (mkAt (its[j]?.getD zIt) 0)) := by have := hcm 0 mn1; rwa [List.getD_eq_getElem?_getD] at this
      have c2 : w.cell? ⟨bo, oo, none⟩ = some (.string (nmAt (its[k]?.getD zIt) 0)) := hco 0 nk1
      clear hcn hcm hco hj1 hk1' hN hM hNk hMk
      generalize nmAt (its[j]?.getD zIt) 0 = s0 at *
      generalize mkAt (its[j]?.getD zIt) 0 = m0 at *
      generalize nmAt (its[k]?.getD zIt) 0 = s1 at *
      have HY := Lib.hid HY
      have HN := Lib.hid HN
      have H3 := Lib.hid H3
      have HA := Lib.hid HA
      have HB := Lib.hid HB
      have kc : k ≤ c := by omega
      cases he : (s0.toList == s1.toList)
      · have HR := Lib.hid (HB.out (HN.out he))
        generalize repTo its k j = t at *
        go_wp2
        go_quiet (fail)
        go_wp2
        go_roundw
        case rel => exact ⟨j + 1, _, by omega, by go_num, by rw [HR.out], (ext_ex (by repeat (first | exact Below.refl _ _ | assumption | refine bExt ?_ _ | refine bAlloc ?_ _ | refine bDrewN ?_ _ | refine bDrew ?_ | refine bSet ?_ (by first | exact Nat.le_refl _ | omega | (simp; done) | (simp; omega)) _))).choose_spec⟩
        case measure => simp [intOf]; omega
      · by_cases h3 : m0 = 3
        · have HR := Lib.hid (HB.out (H3.out h3))
          subst h3
          generalize repTo its k j = t at *
          go_wp2
          go_quiet (fail)
          go_wp2
          go_roundw
          case rel => exact ⟨j + 1, _, by omega, by go_num, by rw [HR.out], (ext_ex (by repeat (first | exact Below.refl _ _ | assumption | refine bExt ?_ _ | refine bAlloc ?_ _ | refine bDrewN ?_ _ | refine bDrew ?_ | refine bSet ?_ (by first | exact Nat.le_refl _ | omega | (simp; done) | (simp; omega)) _))).choose_spec⟩
          case measure => simp [intOf]; omega
        · have HR := Lib.hid (HA.out (HY.out he h3))
          have b3 : (m0 == 3) = false := by simp [h3]
          generalize repTo its k j = t at *
          have e0 : IntKind.i64.wrap (t + 1) = t + 1 := IntWalk.i64_in _ (by omega)
          go_wp2
          go_quiet (fail)
          go_wp2
          go_roundw
          case rel => exact ⟨j + 1, _, by omega, by go_num, by rw [HR.out], (ext_ex (by repeat (first | exact Below.refl _ _ | assumption | refine bExt ?_ _ | refine bAlloc ?_ _ | refine bDrewN ?_ _ | refine bDrew ?_ | refine bSet ?_ (by first | exact Nat.le_refl _ | omega | (simp; done) | (simp; omega)) _))).choose_spec⟩
          case measure => simp [intOf]; omega
    · obtain rfl : j = k := by omega
      go_wp2
      go_ret
      exact ⟨ret_int rfl, ext_ex (by repeat (first | exact Below.refl _ _ | assumption | refine bExt ?_ _ | refine bAlloc ?_ _ | refine bDrewN ?_ _ | refine bDrew ?_ | refine bSet ?_ (by first | exact Nat.le_refl _ | omega | (simp; done) | (simp; omega)) _))⟩
set_option maxHeartbeats 1000000 in
theorem repeatsOf_any (w : World) (A : Option Addr) (n c : Nat) (els : List El) (its : List It) (k : Nat) (ha : RdIt w A n its) (hk : k < n) (hn : n ≤ 1099511627776) (hc : n ≤ c) (hI : ItsG els its) :
    Calls Tryz.prog 91 #[.slice A n c, .int .i64 k] w fun e w' => e = .returned (.int .i64 (repTo its k k)) ∧ ∃ y, w' = ext w y := by
  have Hl := Lib.hid ha.len
  go_enter Tryz.func91, Tryz.ntmps91
  go_wp2
  go_loopw [5, 7, 12] (fun t _ i wr => ∃ (j : Nat) (y : World), j ≤ k ∧ i = .int .i64 j ∧ t = .int .i64 (repTo its k j) ∧ wr = ext w y) (fun _ _ i _ => k - (intOf i).toNat)
  case atStart => exact ⟨0, _, by omega, rfl, rfl, ext_self _⟩
  case round =>
    obtain ⟨j, y, hj, rfl, rfl, rfl⟩ := hrel
    by_cases hlt : j < k
    · have hjn : j < n := by omega
      obtain ⟨b, off, NA, nn, nc, MA, mn, mc, rfl, hb0, hc0, hc1, hc2, hN, hM, _, _⟩ := ha.at_ j hjn
      obtain ⟨b', off', NK, nk, ck, MK, mk, dk, e, hbk, hk0, hk1, hk2, hNk, hMk, _, _⟩ := ha.at_ k hk
      obtain ⟨rfl, rfl⟩ : b = b' ∧ off = off' := by simpa using e
      clear e
      have hj1 := hI j (by rw [Hl.out]; exact hjn)
      have hk1' := hI k (by rw [Hl.out]; exact hk)
      have HY := @repHit_yes its k j
      have HN := @repHit_no its k j
      have H3 := @repHit_3 its k j
      have HA := @repTo_yes its k j
      have HB := @repTo_no its k j
      have hbd := repTo_bd its k j
      have nn1 : 1 ≤ nn := by rw [← hN.len]; exact hj1.1.1
      have mn1 : 1 ≤ mn := by rw [← hM.len, hj1.2.1]; exact hj1.1.1
      have nk1 : 1 ≤ nk := by rw [← hNk.len]; exact hk1'.1.1
      obtain ⟨bn, on, rfl, hbn, hcn⟩ := hN.open_ (by omega)
      obtain ⟨bm, om, rfl, hbm, hcm⟩ := hM.open_ (by omega)
      obtain ⟨bo, oo, rfl, hbo, hco⟩ := hNk.open_ (by omega)
      have c0 : w.cell? ⟨bn, on, none⟩ = some (.string (nmAt (its[j]?.getD zIt) 0)) := hcn 0 nn1
      have c1 : w.cell? ⟨bm, om, none⟩ = some (.int .i64 (mkAt (its[j]?.getD zIt) 0)) := by have := hcm 0 mn1; rwa [List.getD_eq_getElem?_getD] at this
      have c2 : w.cell? ⟨bo, oo, none⟩ = some (.string (nmAt (its[k]?.getD zIt) 0)) := hco 0 nk1
      clear hcn hcm hco hj1 hk1' hN hM hNk hMk
      generalize nmAt (its[j]?.getD zIt) 0 = s0 at *
      generalize mkAt (its[j]?.getD zIt) 0 = m0 at *
      generalize nmAt (its[k]?.getD zIt) 0 = s1 at *
      have HY := Lib.hid HY
      have HN := Lib.hid HN
      have H3 := Lib.hid H3
      have HA := Lib.hid HA
      have HB := Lib.hid HB
      have kc : k ≤ c := by omega
      cases he : (s0.toList == s1.toList)
      · have HR := Lib.hid (HB.out (HN.out he))
        generalize repTo its k j = t at *
        go_wp2
        go_quiet (fail)
        go_wp2
        go_roundw
        case rel => exact ⟨j + 1, _, by omega, by go_num, by rw [HR.out], (ext_ex (by repeat (first | exact Below.refl _ _ | assumption | refine bExt ?_ _ | refine bAlloc ?_ _ | refine bDrewN ?_ _ | refine bDrew ?_ | refine bSet ?_ (by first | exact Nat.le_refl _ | omega | (simp; done) | (simp; omega)) _))).choose_spec⟩
        case measure => simp [intOf]; omega
      · by_cases h3 : m0 = 3
        · have HR := Lib.hid (HB.out (H3.out h3))
          subst h3
          generalize repTo its k j = t at *
          go_wp2
          go_quiet (fail)
          go_wp2
          go_roundw
          case rel => exact ⟨j + 1, _, by omega, by go_num, by rw [HR.out], (ext_ex (by repeat (first | exact Below.refl _ _ | assumption | refine bExt ?_ _ | refine bAlloc ?_ _ | refine bDrewN ?_ _ | refine bDrew ?_ | refine bSet ?_ (by first | exact Nat.le_refl _ | omega | (simp; done) | (simp; omega)) _))).choose_spec⟩
          case measure => simp [intOf]; omega
        · have HR := Lib.hid (HA.out (HY.out he h3))
          have b3 : (m0 == 3) = false := by simp [h3]
          generalize repTo its k j = t at *
          have e0 : IntKind.i64.wrap (t + 1) = t + 1 := IntWalk.i64_in _ (by omega)
          go_wp2
          go_quiet (fail)
          go_wp2
          go_roundw
          case rel => exact ⟨j + 1, _, by omega, by go_num, by rw [HR.out], (ext_ex (by repeat (first | exact Below.refl _ _ | assumption | refine bExt ?_ _ | refine bAlloc ?_ _ | refine bDrewN ?_ _ | refine bDrew ?_ | refine bSet ?_ (by first | exact Nat.le_refl _ | omega | (simp; done) | (simp; omega)) _))).choose_spec⟩
          case measure => simp [intOf]; omega
    · obtain rfl : j = k := by omega
      go_wp2
      go_ret
      exact ⟨ret_int rfl, ext_ex (by repeat (first | exact Below.refl _ _ | assumption | refine bExt ?_ _ | refine bAlloc ?_ _ | refine bDrewN ?_ _ | refine bDrew ?_ | refine bSet ?_ (by first | exact Nat.le_refl _ | omega | (simp; done) | (simp; omega)) _))⟩
set_option maxHeartbeats 1000000 in
theorem bsItem_any (w : World) (A B : Option Addr) (n m c d : Nat) (els : List El) (q0 q1 q2 q3 : Int) (I : Option Addr) (n2 c2 : Nat) (its : List It) (k : Nat) (ha : RdEl w A n els) (hn : n ≤ 1099511627776) (hC : CodeG els q0 q1 q2) (hi : RdIt w I n2 its) (hk : k < n2) (hn2 : n2 ≤ 1099511627776) (hc2 : n2 ≤ c2) (hI : ItsG els its) :
    Calls Tryz.prog 51 #[.agg #[.slice A n c, .slice B m d, .int .i64 q0, .int .i64 q1, .int .i64 q2, .int .i64 q3], .slice I n2 c2, .int .i64 k] w fun e w' => e = .returned (.int .i64 (baseV els q0 q1 q2 its k)) ∧ ∃ y, w' = ext w y := by
  have Hl := Lib.hid hi.len
  have hIk := hI k (by rw [Hl.out]; exact hk)
  have hb := full_bd hC hIk
  have cr := fun W (h : Below w.heap.size w W) => bsRepeats_any W I n2 c2 els its k (hi.below h) hk hn2 hc2 hI
  obtain ⟨b, off, NA, nn, nc, MA, mn, mc, rfl, hb0, hc0, hc1, hc2', hN, hM, _, _⟩ := hi.at_ k hk
  have cf := fun W (h : Below w.heap.size w W) => bsFull_any W A B n m c d els q0 q1 q2 q3 NA MA nn nc mn mc (its[k]?.getD zIt) (ha.below h) hn hC (hN.below h) (hM.below h) hIk
  have HV : Hid (baseV els q0 q1 q2 its k = if repTo its k k < q0 then fullV els q1 q2 (its[k]?.getD zIt) else if repTo its k k = q0 then fullV els q1 q2 (its[k]?.getD zIt) * 7 / 10 else 0) := rfl
  clear hN hM hIk hi hI hC
  generalize repTo its k k = r at *
  generalize its[k]?.getD zIt = it at *
  generalize fullV els q1 q2 it = v at *
  have hR : (w.alloc (.cells #[.slice A n c, .slice B m d, .int .i64 q0, .int .i64 q1, .int .i64 q2, .int .i64 q3] 40)).cell? ⟨w.heap.size, 0, none⟩ = some (.slice A n c) ∧ (w.alloc (.cells #[.slice A n c, .slice B m d, .int .i64 q0, .int .i64 q1, .int .i64 q2, .int .i64 q3] 40)).cell? ⟨w.heap.size, 1, none⟩ = some (.slice B m d) ∧ (w.alloc (.cells #[.slice A n c, .slice B m d, .int .i64 q0, .int .i64 q1, .int .i64 q2, .int .i64 q3] 40)).cell? ⟨w.heap.size, 2, none⟩ = some (.int .i64 q0) ∧ (w.alloc (.cells #[.slice A n c, .slice B m d, .int .i64 q0, .int .i64 q1, .int .i64 q2, .int .i64 q3] 40)).cell? ⟨w.heap.size, 3, none⟩ = some (.int .i64 q1) ∧ (w.alloc (.cells #[.slice A n c, .slice B m d, .int .i64 q0, .int .i64 q1, .int .i64 q2, .int .i64 q3] 40)).cell? ⟨w.heap.size, 4, none⟩ = some (.int .i64 q2) ∧ (w.alloc (.cells #[.slice A n c, .slice B m d, .int .i64 q0, .int .i64 q1, .int .i64 q2, .int .i64 q3] 40)).cell? ⟨w.heap.size, 5, none⟩ = some (.int .i64 q3) ∧ (w.alloc (.cells #[.slice A n c, .slice B m d, .int .i64 q0, .int .i64 q1, .int .i64 q2, .int .i64 q3] 40)).cell? ⟨b, off + k * 3, none⟩ = some (.slice NA nn nc) ∧ (w.alloc (.cells #[.slice A n c, .slice B m d, .int .i64 q0, .int .i64 q1, .int .i64 q2, .int .i64 q3] 40)).cell? ⟨b, off + k * 3 + 1, none⟩ = some (.slice MA mn mc) ∧ (w.alloc (.cells #[.slice A n c, .slice B m d, .int .i64 q0, .int .i64 q1, .int .i64 q2, .int .i64 q3] 40)).cell? ⟨b, off + k * 3 + 2, none⟩ = some (.bool it.2.2) := by refine ⟨?_, ?_, ?_, ?_, ?_, ?_, ?_, ?_, ?_⟩ <;> first | assumption | simp [*, go_sem]
  have hS := fun (W : World) (h : Below (w.alloc (.cells #[.slice A n c, .slice B m d, .int .i64 q0, .int .i64 q1, .int .i64 q2, .int .i64 q3] 40)).heap.size (w.alloc (.cells #[.slice A n c, .slice B m d, .int .i64 q0, .int .i64 q1, .int .i64 q2, .int .i64 q3] 40)) W) => (⟨(h.cell (p := ⟨w.heap.size, 0, none⟩) (by first | assumption | (simp [go_sem]; done) | (simp [go_sem]; omega))).trans hR.1, (h.cell (p := ⟨w.heap.size, 1, none⟩) (by first | assumption | (simp [go_sem]; done) | (simp [go_sem]; omega))).trans hR.2.1, (h.cell (p := ⟨w.heap.size, 2, none⟩) (by first | assumption | (simp [go_sem]; done) | (simp [go_sem]; omega))).trans hR.2.2.1, (h.cell (p := ⟨w.heap.size, 3, none⟩) (by first | assumption | (simp [go_sem]; done) | (simp [go_sem]; omega))).trans hR.2.2.2.1, (h.cell (p := ⟨w.heap.size, 4, none⟩) (by first | assumption | (simp [go_sem]; done) | (simp [go_sem]; omega))).trans hR.2.2.2.2.1, (h.cell (p := ⟨w.heap.size, 5, none⟩) (by first | assumption | (simp [go_sem]; done) | (simp [go_sem]; omega))).trans hR.2.2.2.2.2.1, (h.cell (p := ⟨b, off + k * 3, none⟩) (by first | assumption | (simp [go_sem]; done) | (simp [go_sem]; omega))).trans hR.2.2.2.2.2.2.1, (h.cell (p := ⟨b, off + k * 3 + 1, none⟩) (by first | assumption | (simp [go_sem]; done) | (simp [go_sem]; omega))).trans hR.2.2.2.2.2.2.2.1, (h.cell (p := ⟨b, off + k * 3 + 2, none⟩) (by first | assumption | (simp [go_sem]; done) | (simp [go_sem]; omega))).trans hR.2.2.2.2.2.2.2.2⟩ : W.cell? ⟨w.heap.size, 0, none⟩ = some (.slice A n c) ∧ W.cell? ⟨w.heap.size, 1, none⟩ = some (.slice B m d) ∧ W.cell? ⟨w.heap.size, 2, none⟩ = some (.int .i64 q0) ∧ W.cell? ⟨w.heap.size, 3, none⟩ = some (.int .i64 q1) ∧ W.cell? ⟨w.heap.size, 4, none⟩ = some (.int .i64 q2) ∧ W.cell? ⟨w.heap.size, 5, none⟩ = some (.int .i64 q3) ∧ W.cell? ⟨b, off + k * 3, none⟩ = some (.slice NA nn nc) ∧ W.cell? ⟨b, off + k * 3 + 1, none⟩ = some (.slice MA mn mc) ∧ W.cell? ⟨b, off + k * 3 + 2, none⟩ = some (.bool it.2.2))
  clear hR
  clear hc0 hc1 hc2'
  by_cases h1 : r < q0
  · go_enter Tryz.func51, Tryz.ntmps51
    go_wp2
    go_region_held3 (fun w' => w'.cell? ⟨w.heap.size, 0, none⟩ = some (.slice A n c) ∧ w'.cell? ⟨w.heap.size, 1, none⟩ = some (.slice B m d) ∧ w'.cell? ⟨w.heap.size, 2, none⟩ = some (.int .i64 q0) ∧ w'.cell? ⟨w.heap.size, 3, none⟩ = some (.int .i64 q1) ∧ w'.cell? ⟨w.heap.size, 4, none⟩ = some (.int .i64 q2) ∧ w'.cell? ⟨w.heap.size, 5, none⟩ = some (.int .i64 q3) ∧ w'.cell? ⟨b, off + k * 3, none⟩ = some (.slice NA nn nc) ∧ w'.cell? ⟨b, off + k * 3 + 1, none⟩ = some (.slice MA mn mc) ∧ w'.cell? ⟨b, off + k * 3 + 2, none⟩ = some (.bool it.2.2)) (exact hS _ (by repeat (first | exact Below.refl _ _ | assumption | refine bExt ?_ _ | refine bAlloc ?_ _ | refine bDrewN ?_ _ | refine bDrew ?_ | refine bSet ?_ (by first | exact Nat.le_refl _ | omega | (simp; done) | (simp; omega)) _))) (first | (go_at_call 84; ((with_reducible refine (cr _ (by repeat (first | exact Below.refl _ _ | assumption | refine bExt ?_ _ | refine bAlloc ?_ _ | refine bDrewN ?_ _ | refine bDrew ?_ | refine bSet ?_ (by first | exact Nat.le_refl _ | omega | (simp; done) | (simp; omega)) _))).mono ?_); rintro e w' ⟨rfl, y1, rfl⟩)) | (go_at_call 83; ((with_reducible refine (cf _ (by repeat (first | exact Below.refl _ _ | assumption | refine bExt ?_ _ | refine bAlloc ?_ _ | refine bDrewN ?_ _ | refine bDrew ?_ | refine bSet ?_ (by first | exact Nat.le_refl _ | omega | (simp; done) | (simp; omega)) _))).mono ?_); rintro e w' ⟨rfl, y2, rfl⟩)))
    all_goals
      go_wp2_with (first | (go_at_call 84; ((with_reducible refine (cr _ (by repeat (first | exact Below.refl _ _ | assumption | refine bExt ?_ _ | refine bAlloc ?_ _ | refine bDrewN ?_ _ | refine bDrew ?_ | refine bSet ?_ (by first | exact Nat.le_refl _ | omega | (simp; done) | (simp; omega)) _))).mono ?_); rintro e w' ⟨rfl, y1, rfl⟩)) | (go_at_call 83; ((with_reducible refine (cf _ (by repeat (first | exact Below.refl _ _ | assumption | refine bExt ?_ _ | refine bAlloc ?_ _ | refine bDrewN ?_ _ | refine bDrew ?_ | refine bSet ?_ (by first | exact Nat.le_refl _ | omega | (simp; done) | (simp; omega)) _))).mono ?_); rintro e w' ⟨rfl, y2, rfl⟩)))
      go_ret
      exact ⟨ret_int (by rw [HV.out, if_pos h1]), ext_ex (by repeat (first | exact Below.refl _ _ | assumption | refine bExt ?_ _ | refine bAlloc ?_ _ | refine bDrewN ?_ _ | refine bDrew ?_ | refine bSet ?_ (by first | exact Nat.le_refl _ | omega | (simp; done) | (simp; omega)) _))⟩
  · by_cases h2 : r = q0
    · obtain rfl := h2.symm
      have HW := Lib.hid (show baseV els q0 q1 q2 its k = v * 7 / 10 by rw [HV.out, if_neg h1, if_pos rfl])
      have e3 : (v * 7).tdiv 10 = v * 7 / 10 := Int.tdiv_eq_ediv_of_nonneg (by omega)
      have e4 : IntKind.i64.wrap (v * 7) = v * 7 := IntWalk.i64_in _ (by omega)
      have e5 : IntKind.i64.wrap (v * 7 / 10) = v * 7 / 10 := IntWalk.i64_in _ (by omega)
      clear HV h1
      go_enter Tryz.func51, Tryz.ntmps51
      go_wp2
      go_region_held3 (fun w' => w'.cell? ⟨w.heap.size, 0, none⟩ = some (.slice A n c) ∧ w'.cell? ⟨w.heap.size, 1, none⟩ = some (.slice B m d) ∧ w'.cell? ⟨w.heap.size, 2, none⟩ = some (.int .i64 q0) ∧ w'.cell? ⟨w.heap.size, 3, none⟩ = some (.int .i64 q1) ∧ w'.cell? ⟨w.heap.size, 4, none⟩ = some (.int .i64 q2) ∧ w'.cell? ⟨w.heap.size, 5, none⟩ = some (.int .i64 q3) ∧ w'.cell? ⟨b, off + k * 3, none⟩ = some (.slice NA nn nc) ∧ w'.cell? ⟨b, off + k * 3 + 1, none⟩ = some (.slice MA mn mc) ∧ w'.cell? ⟨b, off + k * 3 + 2, none⟩ = some (.bool it.2.2)) (exact hS _ (by repeat (first | exact Below.refl _ _ | assumption | refine bExt ?_ _ | refine bAlloc ?_ _ | refine bDrewN ?_ _ | refine bDrew ?_ | refine bSet ?_ (by first | exact Nat.le_refl _ | omega | (simp; done) | (simp; omega)) _))) (first | (go_at_call 84; ((with_reducible refine (cr _ (by repeat (first | exact Below.refl _ _ | assumption | refine bExt ?_ _ | refine bAlloc ?_ _ | refine bDrewN ?_ _ | refine bDrew ?_ | refine bSet ?_ (by first | exact Nat.le_refl _ | omega | (simp; done) | (simp; omega)) _))).mono ?_); rintro e w' ⟨rfl, y1, rfl⟩)) | (go_at_call 83; ((with_reducible refine (cf _ (by repeat (first | exact Below.refl _ _ | assumption | refine bExt ?_ _ | refine bAlloc ?_ _ | refine bDrewN ?_ _ | refine bDrew ?_ | refine bSet ?_ (by first | exact Nat.le_refl _ | omega | (simp; done) | (simp; omega)) _))).mono ?_); rintro e w' ⟨rfl, y2, rfl⟩)))
      all_goals
        go_wp2_with (first | (go_at_call 84; ((with_reducible refine (cr _ (by repeat (first | exact Below.refl _ _ | assumption | refine bExt ?_ _ | refine bAlloc ?_ _ | refine bDrewN ?_ _ | refine bDrew ?_ | refine bSet ?_ (by first | exact Nat.le_refl _ | omega | (simp; done) | (simp; omega)) _))).mono ?_); rintro e w' ⟨rfl, y1, rfl⟩)) | (go_at_call 83; ((with_reducible refine (cf _ (by repeat (first | exact Below.refl _ _ | assumption | refine bExt ?_ _ | refine bAlloc ?_ _ | refine bDrewN ?_ _ | refine bDrew ?_ | refine bSet ?_ (by first | exact Nat.le_refl _ | omega | (simp; done) | (simp; omega)) _))).mono ?_); rintro e w' ⟨rfl, y2, rfl⟩)))
        go_ret
        exact ⟨ret_int (by rw [HW.out]), ext_ex (by repeat (first | exact Below.refl _ _ | assumption | refine bExt ?_ _ | refine bAlloc ?_ _ | refine bDrewN ?_ _ | refine bDrew ?_ | refine bSet ?_ (by first | exact Nat.le_refl _ | omega | (simp; done) | (simp; omega)) _))⟩
    · have b2 : (r == q0) = false := by simp [h2]
      have HW := Lib.hid (show baseV els q0 q1 q2 its k = 0 by rw [HV.out, if_neg h1, if_neg h2])
      clear HV
      go_enter Tryz.func51, Tryz.ntmps51
      go_wp2
      go_region_held3 (fun w' => w'.cell? ⟨w.heap.size, 0, none⟩ = some (.slice A n c) ∧ w'.cell? ⟨w.heap.size, 1, none⟩ = some (.slice B m d) ∧ w'.cell? ⟨w.heap.size, 2, none⟩ = some (.int .i64 q0) ∧ w'.cell? ⟨w.heap.size, 3, none⟩ = some (.int .i64 q1) ∧ w'.cell? ⟨w.heap.size, 4, none⟩ = some (.int .i64 q2) ∧ w'.cell? ⟨w.heap.size, 5, none⟩ = some (.int .i64 q3) ∧ w'.cell? ⟨b, off + k * 3, none⟩ = some (.slice NA nn nc) ∧ w'.cell? ⟨b, off + k * 3 + 1, none⟩ = some (.slice MA mn mc) ∧ w'.cell? ⟨b, off + k * 3 + 2, none⟩ = some (.bool it.2.2)) (exact hS _ (by repeat (first | exact Below.refl _ _ | assumption | refine bExt ?_ _ | refine bAlloc ?_ _ | refine bDrewN ?_ _ | refine bDrew ?_ | refine bSet ?_ (by first | exact Nat.le_refl _ | omega | (simp; done) | (simp; omega)) _))) (first | (go_at_call 84; ((with_reducible refine (cr _ (by repeat (first | exact Below.refl _ _ | assumption | refine bExt ?_ _ | refine bAlloc ?_ _ | refine bDrewN ?_ _ | refine bDrew ?_ | refine bSet ?_ (by first | exact Nat.le_refl _ | omega | (simp; done) | (simp; omega)) _))).mono ?_); rintro e w' ⟨rfl, y1, rfl⟩)) | (go_at_call 83; ((with_reducible refine (cf _ (by repeat (first | exact Below.refl _ _ | assumption | refine bExt ?_ _ | refine bAlloc ?_ _ | refine bDrewN ?_ _ | refine bDrew ?_ | refine bSet ?_ (by first | exact Nat.le_refl _ | omega | (simp; done) | (simp; omega)) _))).mono ?_); rintro e w' ⟨rfl, y2, rfl⟩)))
      all_goals
        go_wp2_with (first | (go_at_call 84; ((with_reducible refine (cr _ (by repeat (first | exact Below.refl _ _ | assumption | refine bExt ?_ _ | refine bAlloc ?_ _ | refine bDrewN ?_ _ | refine bDrew ?_ | refine bSet ?_ (by first | exact Nat.le_refl _ | omega | (simp; done) | (simp; omega)) _))).mono ?_); rintro e w' ⟨rfl, y1, rfl⟩)) | (go_at_call 83; ((with_reducible refine (cf _ (by repeat (first | exact Below.refl _ _ | assumption | refine bExt ?_ _ | refine bAlloc ?_ _ | refine bDrewN ?_ _ | refine bDrew ?_ | refine bSet ?_ (by first | exact Nat.le_refl _ | omega | (simp; done) | (simp; omega)) _))).mono ?_); rintro e w' ⟨rfl, y2, rfl⟩)))
        go_ret
        exact ⟨ret_int (by rw [HW.out]), ext_ex (by repeat (first | exact Below.refl _ _ | assumption | refine bExt ?_ _ | refine bAlloc ?_ _ | refine bDrewN ?_ _ | refine bDrew ?_ | refine bSet ?_ (by first | exact Nat.le_refl _ | omega | (simp; done) | (simp; omega)) _))⟩
set_option maxHeartbeats 1000000 in
theorem itemBase_any (w : World) (A B : Option Addr) (n m c d : Nat) (els : List El) (q0 q1 q2 q3 : Int) (I : Option Addr) (n2 c2 : Nat) (its : List It) (k : Nat) (ha : RdEl w A n els) (hn : n ≤ 1099511627776) (hC : CodeG els q0 q1 q2) (hi : RdIt w I n2 its) (hk : k < n2) (hn2 : n2 ≤ 1099511627776) (hc2 : n2 ≤ c2) (hI : ItsG els its) :
    Calls Tryz.prog 61 #[.agg #[.slice A n c, .slice B m d, .int .i64 q0, .int .i64 q1, .int .i64 q2, .int .i64 q3], .slice I n2 c2, .int .i64 k] w fun e w' => e = .returned (.int .i64 (baseV els q0 q1 q2 its k)) ∧ ∃ y, w' = ext w y := by
  have Hl := Lib.hid hi.len
  have hIk := hI k (by rw [Hl.out]; exact hk)
  have hb := full_bd hC hIk
  have cr := fun W (h : Below w.heap.size w W) => repeatsOf_any W I n2 c2 els its k (hi.below h) hk hn2 hc2 hI
  obtain ⟨b, off, NA, nn, nc, MA, mn, mc, rfl, hb0, hc0, hc1, hc2', hN, hM, _, _⟩ := hi.at_ k hk
  have cf := fun W (h : Below w.heap.size w W) => fullBase_any W A B n m c d els q0 q1 q2 q3 NA MA nn nc mn mc (its[k]?.getD zIt) (ha.below h) hn hC (hN.below h) (hM.below h) hIk
  have HV : Hid (baseV els q0 q1 q2 its k = if repTo its k k < q0 then fullV els q1 q2 (its[k]?.getD zIt) else if repTo its k k = q0 then fullV els q1 q2 (its[k]?.getD zIt) * 7 / 10 else 0) := rfl
  clear hN hM hIk hi hI hC
  generalize repTo its k k = r at *
  generalize its[k]?.getD zIt = it at *
  generalize fullV els q1 q2 it = v at *
  have hR : (w.alloc (.cells #[.slice A n c, .slice B m d, .int .i64 q0, .int .i64 q1, .int .i64 q2, .int .i64 q3] 40)).cell? ⟨w.heap.size, 0, none⟩ = some (.slice A n c) ∧ (w.alloc (.cells #[.slice A n c, .slice B m d, .int .i64 q0, .int .i64 q1, .int .i64 q2, .int .i64 q3] 40)).cell? ⟨w.heap.size, 1, none⟩ = some (.slice B m d) ∧ (w.alloc (.cells #[.slice A n c, .slice B m d, .int .i64 q0, .int .i64 q1, .int .i64 q2, .int .i64 q3] 40)).cell? ⟨w.heap.size, 2, none⟩ = some (.int .i64 q0) ∧ (w.alloc (.cells #[.slice A n c, .slice B m d, .int .i64 q0, .int .i64 q1, .int .i64 q2, .int .i64 q3] 40)).cell? ⟨w.heap.size, 3, none⟩ = some (.int .i64 q1) ∧ (w.alloc (.cells #[.slice A n c, .slice B m d, .int .i64 q0, .int .i64 q1, .int .i64 q2, .int .i64 q3] 40)).cell? ⟨w.heap.size, 4, none⟩ = some (.int .i64 q2) ∧ (w.alloc (.cells #[.slice A n c, .slice B m d, .int .i64 q0, .int .i64 q1, .int .i64 q2, .int .i64 q3] 40)).cell? ⟨w.heap.size, 5, none⟩ = some (.int .i64 q3) ∧ (w.alloc (.cells #[.slice A n c, .slice B m d, .int .i64 q0, .int .i64 q1, .int .i64 q2, .int .i64 q3] 40)).cell? ⟨b, off + k * 3, none⟩ = some (.slice NA nn nc) ∧ (w.alloc (.cells #[.slice A n c, .slice B m d, .int .i64 q0, .int .i64 q1, .int .i64 q2, .int .i64 q3] 40)).cell? ⟨b, off + k * 3 + 1, none⟩ = some (.slice MA mn mc) ∧ (w.alloc (.cells #[.slice A n c, .slice B m d, .int .i64 q0, .int .i64 q1, .int .i64 q2, .int .i64 q3] 40)).cell? ⟨b, off + k * 3 + 2, none⟩ = some (.bool it.2.2) := by refine ⟨?_, ?_, ?_, ?_, ?_, ?_, ?_, ?_, ?_⟩ <;> first | assumption | simp [*, go_sem]
  have hS := fun (W : World) (h : Below (w.alloc (.cells #[.slice A n c, .slice B m d, .int .i64 q0, .int .i64 q1, .int .i64 q2, .int .i64 q3] 40)).heap.size (w.alloc (.cells #[.slice A n c, .slice B m d, .int .i64 q0, .int .i64 q1, .int .i64 q2, .int .i64 q3] 40)) W) => (⟨(h.cell (p := ⟨w.heap.size, 0, none⟩) (by first | assumption | (simp [go_sem]; done) | (simp [go_sem]; omega))).trans hR.1, (h.cell (p := ⟨w.heap.size, 1, none⟩) (by first | assumption | (simp [go_sem]; done) | (simp [go_sem]; omega))).trans hR.2.1, (h.cell (p := ⟨w.heap.size, 2, none⟩) (by first | assumption | (simp [go_sem]; done) | (simp [go_sem]; omega))).trans hR.2.2.1, (h.cell (p := ⟨w.heap.size, 3, none⟩) (by first | assumption | (simp [go_sem]; done) | (simp [go_sem]; omega))).trans hR.2.2.2.1, (h.cell (p := ⟨w.heap.size, 4, none⟩) (by first | assumption | (simp [go_sem]; done) | (simp [go_sem]; omega))).trans hR.2.2.2.2.1, (h.cell (p := ⟨w.heap.size, 5, none⟩) (by first | assumption | (simp [go_sem]; done) | (simp [go_sem]; omega))).trans hR.2.2.2.2.2.1, (h.cell (p := ⟨b, off + k * 3, none⟩) (by first | assumption | (simp [go_sem]; done) | (simp [go_sem]; omega))).trans hR.2.2.2.2.2.2.1, (h.cell (p := ⟨b, off + k * 3 + 1, none⟩) (by first | assumption | (simp [go_sem]; done) | (simp [go_sem]; omega))).trans hR.2.2.2.2.2.2.2.1, (h.cell (p := ⟨b, off + k * 3 + 2, none⟩) (by first | assumption | (simp [go_sem]; done) | (simp [go_sem]; omega))).trans hR.2.2.2.2.2.2.2.2⟩ : W.cell? ⟨w.heap.size, 0, none⟩ = some (.slice A n c) ∧ W.cell? ⟨w.heap.size, 1, none⟩ = some (.slice B m d) ∧ W.cell? ⟨w.heap.size, 2, none⟩ = some (.int .i64 q0) ∧ W.cell? ⟨w.heap.size, 3, none⟩ = some (.int .i64 q1) ∧ W.cell? ⟨w.heap.size, 4, none⟩ = some (.int .i64 q2) ∧ W.cell? ⟨w.heap.size, 5, none⟩ = some (.int .i64 q3) ∧ W.cell? ⟨b, off + k * 3, none⟩ = some (.slice NA nn nc) ∧ W.cell? ⟨b, off + k * 3 + 1, none⟩ = some (.slice MA mn mc) ∧ W.cell? ⟨b, off + k * 3 + 2, none⟩ = some (.bool it.2.2))
  clear hR
  clear hc0 hc1 hc2'
  by_cases h1 : r < q0
  · go_enter Tryz.func61, Tryz.ntmps61
    go_wp2
    go_region_held3 (fun w' => w'.cell? ⟨w.heap.size, 0, none⟩ = some (.slice A n c) ∧ w'.cell? ⟨w.heap.size, 1, none⟩ = some (.slice B m d) ∧ w'.cell? ⟨w.heap.size, 2, none⟩ = some (.int .i64 q0) ∧ w'.cell? ⟨w.heap.size, 3, none⟩ = some (.int .i64 q1) ∧ w'.cell? ⟨w.heap.size, 4, none⟩ = some (.int .i64 q2) ∧ w'.cell? ⟨w.heap.size, 5, none⟩ = some (.int .i64 q3) ∧ w'.cell? ⟨b, off + k * 3, none⟩ = some (.slice NA nn nc) ∧ w'.cell? ⟨b, off + k * 3 + 1, none⟩ = some (.slice MA mn mc) ∧ w'.cell? ⟨b, off + k * 3 + 2, none⟩ = some (.bool it.2.2)) (exact hS _ (by repeat (first | exact Below.refl _ _ | assumption | refine bExt ?_ _ | refine bAlloc ?_ _ | refine bDrewN ?_ _ | refine bDrew ?_ | refine bSet ?_ (by first | exact Nat.le_refl _ | omega | (simp; done) | (simp; omega)) _))) (first | (go_at_call 91; ((with_reducible refine (cr _ (by repeat (first | exact Below.refl _ _ | assumption | refine bExt ?_ _ | refine bAlloc ?_ _ | refine bDrewN ?_ _ | refine bDrew ?_ | refine bSet ?_ (by first | exact Nat.le_refl _ | omega | (simp; done) | (simp; omega)) _))).mono ?_); rintro e w' ⟨rfl, y1, rfl⟩)) | (go_at_call 92; ((with_reducible refine (cf _ (by repeat (first | exact Below.refl _ _ | assumption | refine bExt ?_ _ | refine bAlloc ?_ _ | refine bDrewN ?_ _ | refine bDrew ?_ | refine bSet ?_ (by first | exact Nat.le_refl _ | omega | (simp; done) | (simp; omega)) _))).mono ?_); rintro e w' ⟨rfl, y2, rfl⟩)))
    all_goals
      go_wp2
      go_ret
      exact ⟨ret_int (by rw [HV.out, if_pos h1]), ext_ex (by repeat (first | exact Below.refl _ _ | assumption | refine bExt ?_ _ | refine bAlloc ?_ _ | refine bDrewN ?_ _ | refine bDrew ?_ | refine bSet ?_ (by first | exact Nat.le_refl _ | omega | (simp; done) | (simp; omega)) _))⟩
  · by_cases h2 : r = q0
    · obtain rfl := h2.symm
      have HW := Lib.hid (show baseV els q0 q1 q2 its k = v * 7 / 10 by rw [HV.out, if_neg h1, if_pos rfl])
      have e3 : (v * 7).tdiv 10 = v * 7 / 10 := Int.tdiv_eq_ediv_of_nonneg (by omega)
      have e4 : IntKind.i64.wrap (v * 7) = v * 7 := IntWalk.i64_in _ (by omega)
      have e5 : IntKind.i64.wrap (v * 7 / 10) = v * 7 / 10 := IntWalk.i64_in _ (by omega)
      clear HV h1
      go_enter Tryz.func61, Tryz.ntmps61
      go_wp2
      go_region_held3 (fun w' => w'.cell? ⟨w.heap.size, 0, none⟩ = some (.slice A n c) ∧ w'.cell? ⟨w.heap.size, 1, none⟩ = some (.slice B m d) ∧ w'.cell? ⟨w.heap.size, 2, none⟩ = some (.int .i64 q0) ∧ w'.cell? ⟨w.heap.size, 3, none⟩ = some (.int .i64 q1) ∧ w'.cell? ⟨w.heap.size, 4, none⟩ = some (.int .i64 q2) ∧ w'.cell? ⟨w.heap.size, 5, none⟩ = some (.int .i64 q3) ∧ w'.cell? ⟨b, off + k * 3, none⟩ = some (.slice NA nn nc) ∧ w'.cell? ⟨b, off + k * 3 + 1, none⟩ = some (.slice MA mn mc) ∧ w'.cell? ⟨b, off + k * 3 + 2, none⟩ = some (.bool it.2.2)) (exact hS _ (by repeat (first | exact Below.refl _ _ | assumption | refine bExt ?_ _ | refine bAlloc ?_ _ | refine bDrewN ?_ _ | refine bDrew ?_ | refine bSet ?_ (by first | exact Nat.le_refl _ | omega | (simp; done) | (simp; omega)) _))) (first | (go_at_call 91; ((with_reducible refine (cr _ (by repeat (first | exact Below.refl _ _ | assumption | refine bExt ?_ _ | refine bAlloc ?_ _ | refine bDrewN ?_ _ | refine bDrew ?_ | refine bSet ?_ (by first | exact Nat.le_refl _ | omega | (simp; done) | (simp; omega)) _))).mono ?_); rintro e w' ⟨rfl, y1, rfl⟩)) | (go_at_call 92; ((with_reducible refine (cf _ (by repeat (first | exact Below.refl _ _ | assumption | refine bExt ?_ _ | refine bAlloc ?_ _ | refine bDrewN ?_ _ | refine bDrew ?_ | refine bSet ?_ (by first | exact Nat.le_refl _ | omega | (simp; done) | (simp; omega)) _))).mono ?_); rintro e w' ⟨rfl, y2, rfl⟩)))
      all_goals
        go_wp2
        go_ret
        exact ⟨ret_int (by rw [HW.out]), ext_ex (by repeat (first | exact Below.refl _ _ | assumption | refine bExt ?_ _ | refine bAlloc ?_ _ | refine bDrewN ?_ _ | refine bDrew ?_ | refine bSet ?_ (by first | exact Nat.le_refl _ | omega | (simp; done) | (simp; omega)) _))⟩
    · have b2 : (r == q0) = false := by simp [h2]
      have HW := Lib.hid (show baseV els q0 q1 q2 its k = 0 by rw [HV.out, if_neg h1, if_neg h2])
      clear HV
      go_enter Tryz.func61, Tryz.ntmps61
      go_wp2
      go_region_held3 (fun w' => w'.cell? ⟨w.heap.size, 0, none⟩ = some (.slice A n c) ∧ w'.cell? ⟨w.heap.size, 1, none⟩ = some (.slice B m d) ∧ w'.cell? ⟨w.heap.size, 2, none⟩ = some (.int .i64 q0) ∧ w'.cell? ⟨w.heap.size, 3, none⟩ = some (.int .i64 q1) ∧ w'.cell? ⟨w.heap.size, 4, none⟩ = some (.int .i64 q2) ∧ w'.cell? ⟨w.heap.size, 5, none⟩ = some (.int .i64 q3) ∧ w'.cell? ⟨b, off + k * 3, none⟩ = some (.slice NA nn nc) ∧ w'.cell? ⟨b, off + k * 3 + 1, none⟩ = some (.slice MA mn mc) ∧ w'.cell? ⟨b, off + k * 3 + 2, none⟩ = some (.bool it.2.2)) (exact hS _ (by repeat (first | exact Below.refl _ _ | assumption | refine bExt ?_ _ | refine bAlloc ?_ _ | refine bDrewN ?_ _ | refine bDrew ?_ | refine bSet ?_ (by first | exact Nat.le_refl _ | omega | (simp; done) | (simp; omega)) _))) (first | (go_at_call 91; ((with_reducible refine (cr _ (by repeat (first | exact Below.refl _ _ | assumption | refine bExt ?_ _ | refine bAlloc ?_ _ | refine bDrewN ?_ _ | refine bDrew ?_ | refine bSet ?_ (by first | exact Nat.le_refl _ | omega | (simp; done) | (simp; omega)) _))).mono ?_); rintro e w' ⟨rfl, y1, rfl⟩)) | (go_at_call 92; ((with_reducible refine (cf _ (by repeat (first | exact Below.refl _ _ | assumption | refine bExt ?_ _ | refine bAlloc ?_ _ | refine bDrewN ?_ _ | refine bDrew ?_ | refine bSet ?_ (by first | exact Nat.le_refl _ | omega | (simp; done) | (simp; omega)) _))).mono ?_); rintro e w' ⟨rfl, y2, rfl⟩)))
      all_goals
        go_wp2
        go_ret
        exact ⟨ret_int (by rw [HW.out]), ext_ex (by repeat (first | exact Below.refl _ _ | assumption | refine bExt ?_ _ | refine bAlloc ?_ _ | refine bDrewN ?_ _ | refine bDrew ?_ | refine bSet ?_ (by first | exact Nat.le_refl _ | omega | (simp; done) | (simp; omega)) _))⟩
end Go.Proofs.YtfmidngndddfiaaGreatDoor
