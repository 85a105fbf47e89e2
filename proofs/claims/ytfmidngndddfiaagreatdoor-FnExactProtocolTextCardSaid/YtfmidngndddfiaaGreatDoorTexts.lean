/- Contracts: points as text, in the program and in the reference. Conditions: at most a thousand million; the table that strconv.Itoa reads. -/
import Derived.Test.YtfmidngndddfiaaGreatDoorNumI
import Derived.Test.YtfmidngndddfiaaGreatDoorL1
import Derived.Laws.Concat
import Derived.Deep.RegionHeld3
set_option linter.unusedVariables false
set_option linter.unusedSimpArgs false
set_option maxRecDepth 100000
namespace Go.Proofs.YtfmidngndddfiaaGreatDoor
open Go.RowKit
/-- A string that is far from the greatest length. -/
def Fit (a : ByteArray) : Prop := a.size ≤ 1000000
theorem run_add_fit {P : Program} (w : World) (a b : ByteArray) (h : Fit (a ++ b)) : (Op.stringOp .add a b).run P w = .ok (.string (a ++ b)) w := run_string_add_sum w a b (by unfold Fit at h; rw [ByteArray.size_append] at h; omega)
attribute [go_sem high] run_add_fit
/-- Points as text. -/
def poP (n : Int) : ByteArray := numS (n / 100) ++ ⟨#[46]⟩ ++ numS (n / 10 % 10) ++ numS (n % 10)
def poS (n : Int) : ByteArray := if n < 0 then ⟨#[45]⟩ ++ poP (-n) else poP n
theorem poP_size {n : Int} (h0 : 0 ≤ n) (h1 : n ≤ 1000000000) : (poP n).size ≤ 12 := by
  have a := numS_size 7 (n / 100) (by omega) (by omega)
  have b := numS_size 0 (n / 10 % 10) (by omega) (by omega)
  have c := numS_size 0 (n % 10) (by omega) (by omega)
  unfold poP
  simp only [ByteArray.size_append]
  have : ByteArray.size ⟨#[46]⟩ = 1 := rfl
  omega
theorem poS_size {n : Int} (h0 : -1000000000 ≤ n) (h1 : n ≤ 1000000000) : (poS n).size ≤ 13 := by
  unfold poS
  split
  · have := poP_size (n := -n) (by omega) (by omega)
    rw [ByteArray.size_append]
    have : ByteArray.size ⟨#[45]⟩ = 1 := rfl
    omega
  · have := poP_size (n := n) (by omega) (by omega)
    omega
set_option maxHeartbeats 1000000 in
theorem poText_pos (n : Int) (w : World) (h0 : 0 ≤ n) (h1 : n ≤ 1000000000) :
    Calls Tryz.prog 54 #[.int .i64 n] w fun e w' => e = .returned (.string (poP n)) ∧ ∃ x, w' = ext w x := by
  have t1 : n.tdiv 100 = n / 100 := Int.tdiv_eq_ediv_of_nonneg h0
  have t2 : IntKind.i64.wrap (n / 100) = n / 100 := IntWalk.i64_in _ (by omega)
  have t3 : n.tdiv 10 = n / 10 := Int.tdiv_eq_ediv_of_nonneg h0
  have t4 : IntKind.i64.wrap (n / 10) = n / 10 := IntWalk.i64_in _ (by omega)
  have t5 : (n / 10).tmod 10 = n / 10 % 10 := Int.tmod_eq_emod_of_nonneg (by omega)
  have t6 : n.tmod 10 = n % 10 := Int.tmod_eq_emod_of_nonneg h0
  have t7 : IntKind.i64.wrap (n / 10 % 10) = n / 10 % 10 := IntWalk.i64_in _ (by omega)
  have t8 : IntKind.i64.wrap (n % 10) = n % 10 := IntWalk.i64_in _ (by omega)
  have z1 := numS_size 7 (n / 100) (by omega) (by omega)
  have z2 := numS_size 0 (n / 10 % 10) (by omega) (by omega)
  have z3 := numS_size 0 (n % 10) (by omega) (by omega)
  have zp : ByteArray.size ⟨#[46]⟩ = 1 := rfl
  have zm : ByteArray.size ⟨#[45]⟩ = 1 := rfl
  have f1 : Fit (numS (n / 100) ++ ⟨#[46]⟩) := by unfold Fit; simp only [ByteArray.size_append]; omega
  have f2 : Fit (numS (n / 100) ++ ⟨#[46]⟩ ++ numS (n / 10 % 10)) := by unfold Fit; simp only [ByteArray.size_append]; omega
  have f3 : Fit (numS (n / 100) ++ ⟨#[46]⟩ ++ numS (n / 10 % 10) ++ numS (n % 10)) := by unfold Fit; simp only [ByteArray.size_append]; omega
  have hn : ¬ n < 0 := by omega
  have HV : Hid (poP n = numS (n / 100) ++ ⟨#[46]⟩ ++ numS (n / 10 % 10) ++ numS (n % 10)) := rfl
  have c1 := fun W => l1Num_fuel 7 (n / 100) W (by omega) (by omega) (by omega) (by omega)
  have c2 := fun W => l1Num_fuel 0 (n / 10 % 10) W (by omega) (by omega) (by omega) (by omega)
  have c3 := fun W => l1Num_fuel 0 (n % 10) W (by omega) (by omega) (by omega) (by omega)
  clear z1 z2 z3 zp zm
  go_enter Tryz.func54, Tryz.ntmps54
  go_wp2_with (first | (go_at_call 53; ((with_reducible refine (c1 _).mono ?_); rintro e w' ⟨rfl, x1, rfl⟩)) | (go_at_call 53; ((with_reducible refine (c2 _).mono ?_); rintro e w' ⟨rfl, x2, rfl⟩)) | (go_at_call 53; ((with_reducible refine (c3 _).mono ?_); rintro e w' ⟨rfl, x3, rfl⟩)))
  go_ret
  exact ⟨ret_str (by rw [HV.out]), ext_ex (by repeat (first | exact Below.refl _ _ | assumption | refine bExt ?_ _ | refine bAlloc ?_ _ | refine bDrewN ?_ _ | refine bDrew ?_ | refine bSet ?_ (by first | exact Nat.le_refl _ | omega | (simp; done) | (simp; omega)) _))⟩
set_option maxHeartbeats 400000 in
theorem poText_any (n : Int) (w : World) (h0 : -1000000000 ≤ n) (h1 : n ≤ 1000000000) :
    Calls Tryz.prog 54 #[.int .i64 n] w fun e w' => e = .returned (.string (poS n)) ∧ ∃ x, w' = ext w x := by
  by_cases hn : n < 0
  · have HV : Hid (poS n = ⟨#[45]⟩ ++ poP (-n)) := Lib.hid (if_pos hn)
    have hz := poP_size (n := -n) (by omega) (by omega)
    have zm : ByteArray.size ⟨#[45]⟩ = 1 := rfl
    have f1 : Fit ((⟨#[45]⟩ : ByteArray) ++ poP (-n)) := by unfold Fit; simp only [ByteArray.size_append]; omega
    have e1 : IntKind.i64.wrap (-n) = -n := IntWalk.i64_in _ (by omega)
    clear hz zm
    go_enter Tryz.func54, Tryz.ntmps54
    go_wp2_with ((go_at_call 54; ((with_reducible refine (poText_pos _ _ (by omega) (by omega)).mono ?_); rintro e w' ⟨rfl, x1, rfl⟩)))
    go_ret
    exact ⟨ret_str (by rw [HV.out]), ext_ex (by repeat (first | exact Below.refl _ _ | assumption | refine bExt ?_ _ | refine bAlloc ?_ _ | refine bDrewN ?_ _ | refine bDrew ?_ | refine bSet ?_ (by first | exact Nat.le_refl _ | omega | (simp; done) | (simp; omega)) _))⟩
  · rw [show poS n = poP n from if_neg hn]
    exact poText_pos n w (by omega) h1
set_option maxHeartbeats 1000000 in
theorem pointsText_pos (n : Int) (w : World) (h0 : 0 ≤ n) (h1 : n ≤ 1000000000) (hT : Tab w) :
    Calls Tryz.prog 97 #[.int .i64 n] w fun e w' => e = .returned (.string (poP n)) ∧ ∃ x, w' = ext w x := by
  have t1 : n.tdiv 100 = n / 100 := Int.tdiv_eq_ediv_of_nonneg h0
  have t2 : IntKind.i64.wrap (n / 100) = n / 100 := IntWalk.i64_in _ (by omega)
  have t3 : n.tdiv 10 = n / 10 := Int.tdiv_eq_ediv_of_nonneg h0
  have t4 : IntKind.i64.wrap (n / 10) = n / 10 := IntWalk.i64_in _ (by omega)
  have t5 : (n / 10).tmod 10 = n / 10 % 10 := Int.tmod_eq_emod_of_nonneg (by omega)
  have t6 : n.tmod 10 = n % 10 := Int.tmod_eq_emod_of_nonneg h0
  have t7 : IntKind.i64.wrap (n / 10 % 10) = n / 10 % 10 := IntWalk.i64_in _ (by omega)
  have t8 : IntKind.i64.wrap (n % 10) = n % 10 := IntWalk.i64_in _ (by omega)
  have z1 := numS_size 7 (n / 100) (by omega) (by omega)
  have z2 := numS_size 0 (n / 10 % 10) (by omega) (by omega)
  have z3 := numS_size 0 (n % 10) (by omega) (by omega)
  have zp : ByteArray.size ⟨#[46]⟩ = 1 := rfl
  have zm : ByteArray.size ⟨#[45]⟩ = 1 := rfl
  have z0 : ByteArray.size ⟨#[]⟩ = 0 := rfl
  have f1 : Fit ((⟨#[]⟩ : ByteArray) ++ numS (n / 100) ++ ⟨#[46]⟩) := by unfold Fit; simp only [ByteArray.size_append]; omega
  have f2 : Fit ((⟨#[]⟩ : ByteArray) ++ numS (n / 100) ++ ⟨#[46]⟩ ++ numS (n / 10 % 10)) := by unfold Fit; simp only [ByteArray.size_append]; omega
  have f3 : Fit ((⟨#[]⟩ : ByteArray) ++ numS (n / 100) ++ ⟨#[46]⟩ ++ numS (n / 10 % 10) ++ numS (n % 10)) := by unfold Fit; simp only [ByteArray.size_append]; omega
  have f0 : Fit ((⟨#[]⟩ : ByteArray) ++ numS (n / 100)) := by unfold Fit; simp only [ByteArray.size_append]; omega
  have hn : ¬ n < 0 := by omega
  have HV : Hid (poP n = (⟨#[]⟩ : ByteArray) ++ numS (n / 100) ++ ⟨#[46]⟩ ++ numS (n / 10 % 10) ++ numS (n % 10)) := by unfold Hid poP; rw [show (⟨#[]⟩ : ByteArray) ++ numS (n / 100) = numS (n / 100) from ByteArray.empty_append]
  have c1 := fun W (h : Below w.heap.size w W) => itoa_any (n / 100) W (by omega) (by omega) (hT.below h)
  have c2 := fun W => itoa_small (n / 10 % 10) W (by omega) (by omega)
  have c3 := fun W => itoa_small (n % 10) W (by omega) (by omega)
  clear z0 z1 z2 z3 zp zm hT
  go_enter Tryz.func97, Tryz.ntmps97
  go_wp2_with (first | (go_at_call 63; ((with_reducible refine (c1 _ (by repeat (first | exact Below.refl _ _ | assumption | refine bExt ?_ _ | refine bAlloc ?_ _ | refine bDrewN ?_ _ | refine bDrew ?_ | refine bSet ?_ (by first | exact Nat.le_refl _ | omega | (simp; done) | (simp; omega)) _))).mono ?_); rintro e w' ⟨rfl, x1, rfl⟩)) | (go_at_call 63; ((with_reducible refine (c2 _).mono ?_); rintro e w' ⟨rfl, rfl⟩)) | (go_at_call 63; ((with_reducible refine (c3 _).mono ?_); rintro e w' ⟨rfl, rfl⟩)))
  go_ret
  exact ⟨ret_str (by rw [HV.out]), ext_ex (by repeat (first | exact Below.refl _ _ | assumption | refine bExt ?_ _ | refine bAlloc ?_ _ | refine bDrewN ?_ _ | refine bDrew ?_ | refine bSet ?_ (by first | exact Nat.le_refl _ | omega | (simp; done) | (simp; omega)) _))⟩
set_option maxHeartbeats 1000000 in
theorem pointsText_neg (n : Int) (w : World) (h0 : 0 ≤ n) (hp : 0 < n) (h1 : n ≤ 1000000000) (hT : Tab w) (k : Int) (hk : k = -n) :
    Calls Tryz.prog 97 #[.int .i64 k] w fun e w' => e = .returned (.string (⟨#[45]⟩ ++ poP n)) ∧ ∃ x, w' = ext w x := by
  have t1 : n.tdiv 100 = n / 100 := Int.tdiv_eq_ediv_of_nonneg h0
  have t2 : IntKind.i64.wrap (n / 100) = n / 100 := IntWalk.i64_in _ (by omega)
  have t3 : n.tdiv 10 = n / 10 := Int.tdiv_eq_ediv_of_nonneg h0
  have t4 : IntKind.i64.wrap (n / 10) = n / 10 := IntWalk.i64_in _ (by omega)
  have t5 : (n / 10).tmod 10 = n / 10 % 10 := Int.tmod_eq_emod_of_nonneg (by omega)
  have t6 : n.tmod 10 = n % 10 := Int.tmod_eq_emod_of_nonneg h0
  have t7 : IntKind.i64.wrap (n / 10 % 10) = n / 10 % 10 := IntWalk.i64_in _ (by omega)
  have t8 : IntKind.i64.wrap (n % 10) = n % 10 := IntWalk.i64_in _ (by omega)
  have z1 := numS_size 7 (n / 100) (by omega) (by omega)
  have z2 := numS_size 0 (n / 10 % 10) (by omega) (by omega)
  have z3 := numS_size 0 (n % 10) (by omega) (by omega)
  have zp : ByteArray.size ⟨#[46]⟩ = 1 := rfl
  have zm : ByteArray.size ⟨#[45]⟩ = 1 := rfl
  have f1 : Fit ((⟨#[45]⟩ : ByteArray) ++ numS (n / 100) ++ ⟨#[46]⟩) := by unfold Fit; simp only [ByteArray.size_append]; omega
  have f2 : Fit ((⟨#[45]⟩ : ByteArray) ++ numS (n / 100) ++ ⟨#[46]⟩ ++ numS (n / 10 % 10)) := by unfold Fit; simp only [ByteArray.size_append]; omega
  have f3 : Fit ((⟨#[45]⟩ : ByteArray) ++ numS (n / 100) ++ ⟨#[46]⟩ ++ numS (n / 10 % 10) ++ numS (n % 10)) := by unfold Fit; simp only [ByteArray.size_append]; omega
  have f0 : Fit ((⟨#[45]⟩ : ByteArray) ++ numS (n / 100)) := by unfold Fit; simp only [ByteArray.size_append]; omega
  have hn : k < 0 := by omega
  have hk2 : IntKind.i64.wrap (-k) = n := by rw [IntWalk.i64_in _ (by omega)]; omega
  have hk3 : -k = n := by omega
  clear hk
  have HV : Hid (⟨#[45]⟩ ++ poP n = (⟨#[45]⟩ : ByteArray) ++ numS (n / 100) ++ ⟨#[46]⟩ ++ numS (n / 10 % 10) ++ numS (n % 10)) := by unfold Hid poP; simp only [ByteArray.append_assoc]
  have c1 := fun W (h : Below w.heap.size w W) => itoa_any (n / 100) W (by omega) (by omega) (hT.below h)
  have c2 := fun W => itoa_small (n / 10 % 10) W (by omega) (by omega)
  have c3 := fun W => itoa_small (n % 10) W (by omega) (by omega)
  clear z1 z2 z3 zp zm hT
  go_enter Tryz.func97, Tryz.ntmps97
  go_wp2_with (first | (go_at_call 63; ((with_reducible refine (c1 _ (by repeat (first | exact Below.refl _ _ | assumption | refine bExt ?_ _ | refine bAlloc ?_ _ | refine bDrewN ?_ _ | refine bDrew ?_ | refine bSet ?_ (by first | exact Nat.le_refl _ | omega | (simp; done) | (simp; omega)) _))).mono ?_); rintro e w' ⟨rfl, x1, rfl⟩)) | (go_at_call 63; ((with_reducible refine (c2 _).mono ?_); rintro e w' ⟨rfl, rfl⟩)) | (go_at_call 63; ((with_reducible refine (c3 _).mono ?_); rintro e w' ⟨rfl, rfl⟩)))
  go_ret
  exact ⟨ret_str (by rw [HV.out]), ext_ex (by repeat (first | exact Below.refl _ _ | assumption | refine bExt ?_ _ | refine bAlloc ?_ _ | refine bDrewN ?_ _ | refine bDrew ?_ | refine bSet ?_ (by first | exact Nat.le_refl _ | omega | (simp; done) | (simp; omega)) _))⟩
theorem pointsText_any (n : Int) (w : World) (h0 : -1000000000 ≤ n) (h1 : n ≤ 1000000000) (hT : Tab w) :
    Calls Tryz.prog 97 #[.int .i64 n] w fun e w' => e = .returned (.string (poS n)) ∧ ∃ x, w' = ext w x := by
  by_cases hn : n < 0
  · rw [show poS n = ⟨#[45]⟩ ++ poP (-n) from if_pos hn]
    exact pointsText_neg (-n) w (by omega) (by omega) (by omega) hT n (by omega)
  · rw [show poS n = poP n from if_neg hn]
    exact pointsText_pos n w (by omega) h1 hT
end Go.Proofs.YtfmidngndddfiaaGreatDoor
