/- Decimal numbers as text: the reference's l1Num. Conditions: none. -/
import Derived.Test.YtfmidngndddfiaaGreatDoorStrs
import Derived.Lib.ItoaNum
import Derived.Lib.ItoaLen
import Derived.Deep.RegionHeld3
set_option linter.unusedVariables false
set_option linter.unusedSimpArgs false
set_option maxRecDepth 100000
namespace Go.Proofs.YtfmidngndddfiaaGreatDoor
open Go.RowKit
/-- A number in decimal. -/
def numS (n : Int) : ByteArray := ⟨(Lib.decDigits n.toNat).toArray⟩
theorem oneB_data (n : Int) : oneB n = ⟨#[UInt8.ofNat n.toNat]⟩ := rfl
theorem numS_small {n : Int} (h0 : 0 ≤ n) (h : n < 10) : numS n = oneB (48 + n) := by
  unfold numS
  rw [Lib.decDigits_one (by omega), oneB_data, show (48 + n).toNat = 48 + n.toNat by omega]
theorem numS_step {n : Int} (h : 10 ≤ n) : numS n = numS (n / 10) ++ oneB (48 + n % 10) := by
  unfold numS
  rw [Lib.decDigits, dif_neg (by omega), oneB_data, show (48 + n % 10).toNat = 48 + n.toNat % 10 by omega, show (n / 10).toNat = n.toNat / 10 by omega]
  apply ByteArray.ext
  simp
theorem numS_size : ∀ (k : Nat) (n : Int), 0 ≤ n → n.toNat < 10 ^ (k + 1) → (numS n).size ≤ k + 1 := by
  intro k
  induction k with
  | zero => intro n h0 h1; rw [numS_small h0 (by omega)]; exact Nat.le_trans (by simp [oneB, ByteArray.size_push]) (Nat.le_refl 1)
  | succ k ih =>
    intro n h0 h1
    by_cases h : n < 10
    · rw [numS_small h0 h]; exact Nat.le_trans (show (oneB (48 + n)).size ≤ 1 by simp [oneB, ByteArray.size_push]) (by omega)
    · rw [numS_step (by omega), ByteArray.size_append]
      have h2 := ih (n / 10) (by omega) (by rw [Nat.pow_succ] at h1; omega)
      have h3 : (oneB (48 + n % 10)).size ≤ 1 := by simp [oneB, ByteArray.size_push]
      omega
theorem run_conv_u8 (W : World) (n : Int) (g : Nat) (h : g = W.heap.size) : (convert 101 9 (.slice (some ⟨g, 0, none⟩) 1 1)).run Tryz.prog (W.alloc (.cells #[.int .u8 n] 5)) = .ok (.string (oneB n)) (W.alloc (.cells #[.int .u8 n] 5)) := by
  subst h
  have hl := run_loadCells_list (P := Tryz.prog) (W.alloc (.cells #[.int .u8 n] 5)) ⟨W.heap.size, 0, none⟩ [Value.int .u8 n] (fun j v hj => by
    match j with
    | 0 => simp at hj; subst hj; simp [Addr.add, go_sem]
    | j + 1 => simp at hj)
  rw [run_convert_bytes_string _ _ _ _ _ _ _ Tryz.underlying101 Tryz.underlying5 Tryz.underlying9, run_bytesToString _ _ 1 1 [n] hl]
  rfl
attribute [go_sem] run_conv_u8
/-- The same where the byte's block is an older one. -/
theorem run_conv_old (W : World) (n : Int) (g : Nat) (h : W.cell? ⟨g, 0, none⟩ = some (.int .u8 n)) : (convert 101 9 (.slice (some ⟨g, 0, none⟩) 1 1)).run Tryz.prog W = .ok (.string (oneB n)) W := by
  have hl := run_loadCells_list (P := Tryz.prog) W ⟨g, 0, none⟩ [Value.int .u8 n] (fun j v hj => by
    match j with
    | 0 => simp at hj; subst hj; simpa [Addr.add] using h
    | j + 1 => simp at hj)
  rw [run_convert_bytes_string _ _ _ _ _ _ _ Tryz.underlying101 Tryz.underlying5 Tryz.underlying9, run_bytesToString _ _ 1 1 [n] hl]
  rfl
theorem run_conv_d (W : World) (n : Int) (g : Nat) (h : g = W.heap.size) : (convert 101 9 (.slice (some ⟨g, 0, none⟩) 1 1)).run Tryz.prog (W.alloc (.cells #[.int .u8 n] 5)).drew = .ok (.string (oneB n)) (W.alloc (.cells #[.int .u8 n] 5)).drew := run_conv_old _ n g (by subst h; simp [go_sem])
theorem run_conv_dx (W x : World) (n : Int) (g : Nat) (h : g = W.heap.size) : (convert 101 9 (.slice (some ⟨g, 0, none⟩) 1 1)).run Tryz.prog (ext (W.alloc (.cells #[.int .u8 n] 5)).drew x) = .ok (.string (oneB n)) (ext (W.alloc (.cells #[.int .u8 n] 5)).drew x) := run_conv_old _ n g (by subst h; simp [go_sem])
theorem run_conv_x (W x : World) (n : Int) (g : Nat) (h : g = W.heap.size) : (convert 101 9 (.slice (some ⟨g, 0, none⟩) 1 1)).run Tryz.prog (ext (W.alloc (.cells #[.int .u8 n] 5)) x) = .ok (.string (oneB n)) (ext (W.alloc (.cells #[.int .u8 n] 5)) x) := run_conv_old _ n g (by subst h; simp [go_sem])
attribute [go_sem] run_conv_d run_conv_dx run_conv_x
set_option maxHeartbeats 1000000 in
theorem l1Num_fuel (k : Nat) : ∀ (n : Int) (w : World), 0 ≤ n → n.toNat < 10 ^ (k + 1) → n ≤ 9223372036854775807 → k ≤ 30 →
    Calls Tryz.prog 53 #[.int .i64 n] w fun e w' => e = .returned (.string (numS n)) ∧ ∃ x, w' = ext w x := by
  induction k with
  | zero =>
    intro n w h0 h1 h2 h3
    have h9 : n < 10 := by omega
    have HN := Lib.hid (numS_small h0 h9)
    go_enter Tryz.func53, Tryz.ntmps53
    go_wp2
    go_ret
    exact ⟨ret_str (by rw [HN.out]), ext_ex (by repeat (first | exact Below.refl _ _ | assumption | refine bExt ?_ _ | refine bAlloc ?_ _ | refine bDrewN ?_ _ | refine bDrew ?_ | refine bSet ?_ (by first | exact Nat.le_refl _ | omega | (simp; done) | (simp; omega)) _))⟩
  | succ k ih =>
    intro n w h0 h1 h2 h3
    by_cases h9 : n < 10
    · have HN := Lib.hid (numS_small h0 h9)
      clear ih h1
      go_enter Tryz.func53, Tryz.ntmps53
      go_wp2
      go_ret
      exact ⟨ret_str (by rw [HN.out]), ext_ex (by repeat (first | exact Below.refl _ _ | assumption | refine bExt ?_ _ | refine bAlloc ?_ _ | refine bDrewN ?_ _ | refine bDrew ?_ | refine bSet ?_ (by first | exact Nat.le_refl _ | omega | (simp; done) | (simp; omega)) _))⟩
    · have HN := Lib.hid (numS_step (n := n) (by omega))
      have hk : (n / 10).toNat < 10 ^ (k + 1) := by rw [Nat.pow_succ] at h1; omega
      have hs := numS_size k (n / 10) (by omega) hk
      have ho : (oneB (48 + n % 10)).size ≤ 1 := by simp [oneB, ByteArray.size_push]
      have ih' := fun w => ih (n / 10) w (by omega) hk (by omega) (by omega)
      have e1 : n.tdiv 10 = n / 10 := Int.tdiv_eq_ediv_of_nonneg h0
      have e2 : n.tmod 10 = n % 10 := Int.tmod_eq_emod_of_nonneg h0
      have e3 : IntKind.i64.wrap (n / 10) = n / 10 := IntWalk.i64_in _ (by omega)
      have e4 : IntKind.i64.wrap (48 + n % 10) = 48 + n % 10 := IntWalk.i64_in _ (by omega)
      have e5 : IntKind.u8.wrap (48 + n % 10) = 48 + n % 10 := IntWalk.u8_in _ (by omega)
      clear ih h1 hk
      go_enter Tryz.func53, Tryz.ntmps53
      go_wp2
      go_region_with (first | (go_at_call 53; ((with_reducible refine (ih' _).mono ?_); rintro e w' ⟨rfl, x, rfl⟩)))
      all_goals
        go_wp2
        go_ret
        exact ⟨ret_str (by rw [HN.out]), ext_ex (by repeat (first | exact Below.refl _ _ | assumption | refine bExt ?_ _ | refine bAlloc ?_ _ | refine bDrewN ?_ _ | refine bDrew ?_ | refine bSet ?_ (by first | exact Nat.le_refl _ | omega | (simp; done) | (simp; omega)) _))⟩
end Go.Proofs.YtfmidngndddfiaaGreatDoor
