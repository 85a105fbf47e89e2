/- Contracts of the functions on series of ints, in the program and in the reference. Conditions: lengths below 2^40. -/
import Derived.Test.YtppcmnolkbobfaaStatsP
import Derived.Test.YtppcmnolkbobfaaLawKit
import Derived.Deep.RegionHeld3
set_option linter.unusedVariables false
set_option linter.unusedSimpArgs false
set_option maxRecDepth 100000
namespace Go.Proofs.Ytppcmnolkbobfaa
open Go.ChangeShapes Go.WideShapes Go.ChangeAt Go.RowKit
theorem ret_intB' {a b : Int} {k : Bool} (h : a = b) : Ending.returned (.tuple #[.int .i64 a, .bool k]) = .returned (.tuple #[.int .i64 b, .bool k]) := by rw [h]
theorem ret_int2 {a b c d : Int} (h : a = b) (h' : c = d) : Ending.returned (.tuple #[.int .i64 a, .int .i64 c]) = .returned (.tuple #[.int .i64 b, .int .i64 d]) := by rw [h, h']
theorem ret_int2B {a b c d : Int} {k : Bool} (h : a = b) (h' : c = d) : Ending.returned (.tuple #[.int .i64 a, .int .i64 c, .bool k]) = .returned (.tuple #[.int .i64 b, .int .i64 d, .bool k]) := by rw [h, h']
theorem jdSeries_any (w : World) (A : Option Addr) (n c : Nat) (l : List Int) (ha : RdI w A n l) (hn : n ≤ 1099511627776) :
    Calls Try.prog 97 #[.slice A n c] w fun e w' => e = .returned (.bool (serB l)) ∧ w = w' := by
  have Hl := Lib.hid ha.len
  unfold serB
  rw [Hl.out]
  cases h1 : inB n 1 60
  · go_enter Try.func97, Try.ntmps97
    go_wp2_with (first | (go_at_call 98; ((with_reducible refine (l1In_any _ _ _ _).mono ?_); rintro e w' ⟨rfl, rfl⟩)))
    go_ret
    exact ⟨rfl, rfl⟩
  · go_enter Try.func97, Try.ntmps97
    go_wp2_with (first | (go_at_call 98; ((with_reducible refine (l1In_any _ _ _ _).mono ?_); rintro e w' ⟨rfl, rfl⟩)) | (go_at_call 174; ((with_reducible refine (l1All_any _ _ _ _ _ _ _ ha hn).mono ?_); rintro e w' ⟨rfl, rfl⟩)))
    go_ret
    exact ⟨rfl, rfl⟩
theorem isSeries_any (w : World) (A : Option Addr) (n c : Nat) (l : List Int) (ha : RdI w A n l) (hn : n ≤ 1099511627776) :
    Calls Try.prog 94 #[.slice A n c] w fun e w' => e = .returned (.bool (serB l)) ∧ w = w' := by
  have Hl := Lib.hid ha.len
  unfold serB
  rw [Hl.out]
  cases h1 : inB n 1 60
  · go_enter Try.func94, Try.ntmps94
    go_wp2_with (first | (go_at_call 95; ((with_reducible refine (within_any _ _ _ _).mono ?_); rintro e w' ⟨rfl, rfl⟩)))
    go_ret
    exact ⟨rfl, rfl⟩
  · go_enter Try.func94, Try.ntmps94
    go_wp2_with (first | (go_at_call 95; ((with_reducible refine (within_any _ _ _ _).mono ?_); rintro e w' ⟨rfl, rfl⟩)) | (go_at_call 173; ((with_reducible refine (allWithin_any _ _ _ _ _ _ _ ha hn).mono ?_); rintro e w' ⟨rfl, rfl⟩)))
    go_ret
    exact ⟨rfl, rfl⟩
set_option maxHeartbeats 400000 in
theorem jdSum_any (w : World) (A : Option Addr) (n c : Nat) (l : List Int) (ha : RdI w A n l) (hn : n ≤ 1000) (hb : ∀ x ∈ l, -100000 ≤ x ∧ x ≤ 100000) :
    Calls Try.prog 104 #[.slice A n c] w fun e w' => e = .returned (.int .i64 (sumTo l n)) ∧ w = w' := by
  have Hl := Lib.hid ha.len
  go_enter Try.func104, Try.ntmps104
  go_wp2
  go_loop [3, 5, 8] (fun t _ i => ∃ k : Nat, k ≤ n ∧ i = .int .i64 k ∧ t = .int .i64 (sumTo l k)) (fun _ _ i => n - (intOf i).toNat)
  case atStart => exact ⟨0, by omega, rfl, rfl⟩
  case round =>
    obtain ⟨k, hk, rfl, rfl⟩ := hrel
    by_cases hlt : k < n
    · obtain ⟨b, off, rfl, hb0, hc⟩ := ha.open_ (by omega)
      have hck := hc k hlt
      rw [List.getD_eq_getElem?_getD] at hck
      have h1 := sumTo_bd (by omega) hb k
      have h2 := hb _ (getD_mem 0 l k (by rw [Hl.out]; exact hlt))
      have HS := Lib.hid (sumTo_succ l k (by rw [Hl.out]; exact hlt))
      clear hc
      generalize l[k]?.getD 0 = x at *
      generalize sumTo l k = s at *
      go_wp2
      go_round
      case rel => exact ⟨k + 1, by omega, by go_num, by rw [HS.out]⟩
      case measure => simp [intOf]; omega
    · have hkn := Lib.hid (show k = n by omega)
      go_wp2
      go_ret
      exact ⟨ret_int (by rw [hkn.out]), rfl⟩
set_option maxHeartbeats 400000 in
theorem sumInts_any (w : World) (A : Option Addr) (n c : Nat) (l : List Int) (ha : RdI w A n l) (hn : n ≤ 1000) (hb : ∀ x ∈ l, -100000 ≤ x ∧ x ≤ 100000) :
    Calls Try.prog 102 #[.slice A n c] w fun e w' => e = .returned (.int .i64 (sumTo l n)) ∧ w = w' := by
  have Hl := Lib.hid ha.len
  go_enter Try.func102, Try.ntmps102
  go_wp2
  go_loop [3, 5, 8] (fun t _ i => ∃ k : Nat, k ≤ n ∧ i = .int .i64 k ∧ t = .int .i64 (sumTo l k)) (fun _ _ i => n - (intOf i).toNat)
  case atStart => exact ⟨0, by omega, rfl, rfl⟩
  case round =>
    obtain ⟨k, hk, rfl, rfl⟩ := hrel
    by_cases hlt : k < n
    · obtain ⟨b, off, rfl, hb0, hc⟩ := ha.open_ (by omega)
      have hck := hc k hlt
      rw [List.getD_eq_getElem?_getD] at hck
      have h1 := sumTo_bd (by omega) hb k
      have h2 := hb _ (getD_mem 0 l k (by rw [Hl.out]; exact hlt))
      have HS := Lib.hid (sumTo_succ l k (by rw [Hl.out]; exact hlt))
      clear hc
      generalize l[k]?.getD 0 = x at *
      generalize sumTo l k = s at *
      go_wp2
      go_round
      case rel => exact ⟨k + 1, by omega, by go_num, by rw [HS.out]⟩
      case measure => simp [intOf]; omega
    · have hkn := Lib.hid (show k = n by omega)
      go_wp2
      go_ret
      exact ⟨ret_int (by rw [hkn.out]), rfl⟩
theorem absOf_any (a : Int) (w : World) (h : -4611686018427387904 ≤ a) (h' : a ≤ 4611686018427387904) :
    Calls Try.prog 157 #[.int .i64 a] w fun e w' => e = .returned (.int .i64 (max a (-a))) ∧ w = w' := by
  by_cases hs : a < -a
  all_goals
    go_enter Try.func157, Try.ntmps157
    go_wp2
    go_ret
    exact ⟨ret_int (by omega), rfl⟩
set_option maxHeartbeats 400000 in
theorem gcdOf_any (a b : Int) (w : World) (h1 : -4611686018427387904 ≤ a) (h2 : a ≤ 4611686018427387904) (h3 : -4611686018427387904 ≤ b) (h4 : b ≤ 4611686018427387904) :
    Calls Try.prog 175 #[.int .i64 a, .int .i64 b] w fun e w' => e = .returned (.int .i64 (gcdV a b)) ∧ ∃ x, w' = ext w x := by
  by_cases hA : a < -a <;> by_cases hB : b < -b
  all_goals
    go_enter Try.func175, Try.ntmps175
    go_wp2
    go_loopw [0, 1] (fun s t wr => ∃ (x y : Int) (z : World), (0 ≤ x ∧ x ≤ 4611686018427387904) ∧ (0 ≤ y ∧ y ≤ 4611686018427387904) ∧ s = .int .i64 x ∧ t = .int .i64 y ∧ wr = ext w z ∧ Hid (gcdV x y = gcdV a b)) (fun _ t _ => (intOf t).toNat)
    case atStart => exact ⟨_, _, _, ⟨by omega, by omega⟩, ⟨by omega, by omega⟩, rfl, rfl, ext_self w, gcdV_same (by omega) (by omega)⟩
    case round =>
      obtain ⟨x, y, z, hx, hy, rfl, rfl, rfl, H⟩ := hrel
      by_cases hz : y = 0
      · subst hz
        have Hz := Lib.hid (gcdV_zero hx.1)
        go_wp2
        go_ret
        exact ⟨ret_int (by rw [← H.out, Hz.out]), _, rfl⟩
      · have hy0 : (y == 0) = false := by simpa using hz
        have hm : 0 ≤ x % y ∧ x % y < y := ⟨Int.emod_nonneg _ hz, Int.emod_lt_of_pos _ (by omega)⟩
        have HS := Lib.hid (gcdV_stepE hx.1 (show 0 < y by omega))
        go_wp2
        go_quiet (fail)
        go_wp2
        go_roundw
        case rel => exact ⟨_, _, _, hy, ⟨hm.1, by omega⟩, rfl, rfl, (ext_ex (by repeat (first | exact Below.refl _ _ | assumption | refine bExt ?_ _ | refine bAlloc ?_ _ | refine bDrewN ?_ _ | refine bDrew ?_ | refine bSet ?_ (by first | exact Nat.le_refl _ | omega | (simp; done) | (simp; omega)) _))).choose_spec, by rw [HS.out]; exact H⟩
        case measure => simp [intOf]; omega
set_option maxHeartbeats 400000 in
theorem lowestTerms_any (a b : Int) (w : World) (h1 : -4611686018427387904 ≤ a) (h2 : a ≤ 4611686018427387904) (h3 : 0 < b) (h4 : b ≤ 4611686018427387904) :
    Calls Try.prog 101 #[.int .i64 a, .int .i64 b] w fun e w' => e = .returned (.tuple #[.int .i64 (lowA a b), .int .i64 (lowB a b)]) ∧ ∃ x, w' = ext w x := by
  unfold lowA lowB
  have hp := gcdV_pos (a := a) h3
  have cg := gcdOf_any a b w h1 h2 (by omega) h4
  generalize gcdV a b = g at *
  have hg0 : (g == 0) = false := by simp; omega
  have b1 := tdiv_bd a g hp
  have b2 := tdiv_bd b g hp
  go_enter Try.func101, Try.ntmps101
  go_wp2_with (first | (go_at_call 175; ((with_reducible refine (cg).mono ?_); rintro e w' ⟨rfl, x, rfl⟩)))
  go_quiet (fail)
  go_wp2
  go_ret2
  exact ⟨rfl, ext_ex (by repeat (first | exact Below.refl _ _ | assumption | refine bExt ?_ _ | refine bAlloc ?_ _ | refine bDrewN ?_ _ | refine bDrew ?_ | refine bSet ?_ (by first | exact Nat.le_refl _ | omega | (simp; done) | (simp; omega)) _))⟩
set_option maxHeartbeats 400000 in
theorem jdPart_any (a b : Int) (w : World) (h1 : -4611686018427387904 ≤ a) (h2 : a ≤ 4611686018427387904) (h3 : 0 < b) (h4 : b ≤ 4611686018427387904) :
    Calls Try.prog 103 #[.int .i64 a, .int .i64 b] w fun e w' => e = .returned (.tuple #[.int .i64 (lowA a b), .int .i64 (lowB a b)]) ∧ ∃ x, w' = ext w x := by
  unfold lowA lowB
  have hp := gcdV_pos (a := a) h3
  have H0 : Hid (gcdV (absI a) b = gcdV a b) := gcdV_abs a b
  have ha0 : 0 ≤ absI a ∧ absI a ≤ 4611686018427387904 := by unfold absI; omega
  generalize gcdV a b = g at *
  have hg0 : (g == 0) = false := by simp; omega
  have b1 := tdiv_bd a g hp
  have b2 := tdiv_bd b g hp
  go_enter Try.func103, Try.ntmps103
  go_wp2_with (first | (go_at_call 141; ((with_reducible refine (l1Abs_any _ _ (by omega) (by omega)).mono ?_); rintro e w' ⟨rfl, rfl⟩)))
  go_loop [6, 7, 8] (fun s t _ => ∃ (x y : Int), (0 ≤ x ∧ x ≤ 4611686018427387904) ∧ (0 ≤ y ∧ y ≤ 4611686018427387904) ∧ s = .int .i64 x ∧ t = .int .i64 y ∧ Hid (gcdV x y = g)) (fun _ t _ => (intOf t).toNat)
  case atStart => exact ⟨_, _, ha0, ⟨by omega, by omega⟩, rfl, rfl, H0⟩
  case round =>
    obtain ⟨x, y, hx, hy, rfl, rfl, H⟩ := hrel
    by_cases hz : y = 0
    · subst hz
      have Hz := gcdV_zero hx.1
      rw [H.out] at Hz
      subst Hz
      clear H H0
      go_wp2
      go_quiet (fail)
      go_wp2
      go_ret2
      exact ⟨rfl, ext_ex (by repeat (first | exact Below.refl _ _ | assumption | refine bExt ?_ _ | refine bAlloc ?_ _ | refine bDrewN ?_ _ | refine bDrew ?_ | refine bSet ?_ (by first | exact Nat.le_refl _ | omega | (simp; done) | (simp; omega)) _))⟩
    · have hy0 : (y == 0) = false := by simpa using hz
      have hm : 0 ≤ x % y ∧ x % y < y := ⟨Int.emod_nonneg _ hz, Int.emod_lt_of_pos _ (by omega)⟩
      have HS := Lib.hid (gcdV_stepE hx.1 (show 0 < y by omega))
      go_wp2
      go_round
      case rel => exact ⟨_, _, hy, ⟨hm.1, by omega⟩, rfl, rfl, by rw [HS.out]; exact H⟩
      case measure => simp [intOf]; omega
end Go.Proofs.Ytppcmnolkbobfaa
