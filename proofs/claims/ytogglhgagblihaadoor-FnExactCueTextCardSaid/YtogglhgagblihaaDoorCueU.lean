/- The text of a cue in the reference. Conditions: none. -/
import Derived.Test.YtogglhgagblihaaDoorCueT
import Derived.Deep.DeepCutAuto
import Derived.Deep.RegionHeld
set_option linter.unusedVariables false
set_option linter.unusedSimpArgs false
set_option maxRecDepth 100000
namespace Go.Proofs.YtogglhgagblihaaDoor
open Go.RowKit
def wordN : Nat → ByteArray
  | 1 => ⟨#[119, 97, 114, 109, 45, 117, 112]⟩
  | 2 => ⟨#[115, 116, 97, 114, 116]⟩
  | 3 => ⟨#[101, 110, 100]⟩
  | 4 => ⟨#[115, 99, 111, 114, 101]⟩
  | _ => ⟨#[]⟩
theorem wordN_size (j : Nat) : (wordN j).size ≤ 7 := by unfold wordN; split <;> decide
theorem wordN_eq (j : Nat) (h1 : 1 ≤ j) (h4 : j ≤ 4) : wordC j = wordN j := by
  rcases (by omega : j = 1 ∨ j = 2 ∨ j = 3 ∨ j = 4) with rfl | rfl | rfl | rfl <;> rfl
theorem srWords_any (w : World) : Calls Tryd.prog 51 #[] w fun e w' => ∃ g x, e = .returned (.slice (some ⟨g, 0, none⟩) 5 5) ∧ w' = ext w x ∧ ∀ j : Nat, j < 5 → (ext w x).cell? ⟨g, j, none⟩ = some (.string (wordN j)) := by
  go_enter Tryd.func51, Tryd.ntmps51
  go_wp2
  go_ret
  obtain ⟨x, hx⟩ := ext_ex (bAlloc (Below.refl w.heap.size w) (.cells #[.string ⟨#[]⟩, .string ⟨#[119, 97, 114, 109, 45, 117, 112]⟩, .string ⟨#[115, 116, 97, 114, 116]⟩, .string ⟨#[101, 110, 100]⟩, .string ⟨#[115, 99, 111, 114, 101]⟩] 9))
  refine ⟨w.heap.size, x, rfl, hx, fun j hj => ?_⟩
  rw [← hx]
  rcases (by omega : j = 0 ∨ j = 1 ∨ j = 2 ∨ j = 3 ∨ j = 4) with rfl | rfl | rfl | rfl | rfl <;> simp [go_sem, wordN]
set_option maxHeartbeats 4000000 in
theorem specCueText_any (t k s : Int) (w : World) :
    Calls Tryd.prog 8 #[.agg #[.int .i64 t, .int .i64 k, .int .i64 s]] w (RetSB w (cueT t k s) (cueB t k s)) := by
  cases hc : cueB t k s
  · have HV : Hid (cueT t k s = ByteArray.empty) := Lib.hid (by simp [cueT, hc])
    unfold cueB at hc
    go_enter Tryd.func8, Tryd.ntmps8
    go_wp2_with (first | (go_at_call 48; ((with_reducible refine (tiClockT_any _ _).mono ?_); rintro e w' ⟨rfl, rfl⟩)) | (go_at_call 49; ((with_reducible refine (l1In_any _ _ _ _).mono ?_); rintro e w' ⟨rfl, rfl⟩)))
    all_goals first | (go_ret2; exact RetSB.mk_ (by rw [HV.out]; rfl) rfl (by repeat (first | exact Below.refl _ _ | assumption | refine bExt ?_ _ | refine bAlloc ?_ _ | refine bDrewN ?_ _ | refine bDrew ?_ | refine bSet ?_ (by first | exact Nat.le_refl _ | omega | (simp; done) | (simp; omega)) _))) | (exfalso; simp_all; done) | (exfalso; simp_all; exact hc (beq_both (by assumption)))
  · obtain ⟨⟨ht0, ht1⟩, ⟨hk0, hk1⟩, ⟨hs0, hs1⟩, hsk⟩ := cueB_of hc
    have i1 : inB t 0 200000 = true := inB_iff.2 ⟨ht0, ht1⟩
    have i3 : inB s 0 999 = true := inB_iff.2 ⟨hs0, hs1⟩
    have z1 := twoD_size (n := t / 3600) (by omega) (by omega)
    have z2 := twoD_size (n := t / 60 % 60) (by omega) (by omega)
    have z3 := twoD_size (n := t % 60) (by omega) (by omega)
    have z4 := numS_size 2 s hs0 (by omega)
    have e1 : t.tdiv 3600 = t / 3600 := Int.tdiv_eq_ediv_of_nonneg ht0
    have e2 : IntKind.i64.wrap (t / 3600) = t / 3600 := IntWalk.i64_in _ (by omega)
    have e3 : t.tdiv 60 = t / 60 := Int.tdiv_eq_ediv_of_nonneg ht0
    have e4 : IntKind.i64.wrap (t / 60) = t / 60 := IntWalk.i64_in _ (by omega)
    have e5 : (t / 60).tmod 60 = t / 60 % 60 := Int.tmod_eq_emod_of_nonneg (by omega)
    have e6 : t.tmod 60 = t % 60 := Int.tmod_eq_emod_of_nonneg ht0
    obtain ⟨kk, rfl⟩ : ∃ kk : Nat, k = kk := ⟨k.toNat, by omega⟩
    have i2 : inB kk 1 4 = true := inB_iff.2 ⟨hk0, hk1⟩
    have HH : Hid (cueH t kk = twoD (t / 3600) ++ ⟨#[58]⟩ ++ twoD (t / 60 % 60) ++ ⟨#[58]⟩ ++ twoD (t % 60) ++ ⟨#[32]⟩ ++ wordN kk) := Lib.hid (by rw [cueH, wordN_eq kk (by omega) (by omega)])
    have HV : Hid (cueT t kk s = if 0 < s then cueH t kk ++ (⟨#[32]⟩ ++ numS s) else cueH t kk) := Lib.hid (by rw [cueT, if_pos hc])
    have hsk' : Hid (s = 0 ↔ (kk : Int) = 1) := hsk
    have eb : (s == 0) = ((kk : Int) == 1) := by rw [Bool.eq_iff_iff, beq_iff_eq, beq_iff_eq]; exact hsk
    have ed : decide (s = 0) = decide ((kk : Int) = 1) := by rw [decide_eq_decide]; exact hsk
    have z5 := wordN_size kk
    have hk5 : kk < 5 := by omega
    have hkI : (kk : Int) < 5 := by omega
    have m0 : Sml (twoD (t / 3600)) := by unfold Sml; (try simp only [ByteArray.size_append]); have h58 : ByteArray.size ⟨#[58]⟩ = 1 := rfl; have h32 : ByteArray.size ⟨#[32]⟩ = 1 := rfl; omega
    have m1 : Sml (twoD (t / 3600) ++ ⟨#[58]⟩) := by unfold Sml; (try simp only [ByteArray.size_append]); have h58 : ByteArray.size ⟨#[58]⟩ = 1 := rfl; have h32 : ByteArray.size ⟨#[32]⟩ = 1 := rfl; omega
    have m2 : Sml (twoD (t / 3600) ++ ⟨#[58]⟩ ++ twoD (t / 60 % 60)) := by unfold Sml; (try simp only [ByteArray.size_append]); have h58 : ByteArray.size ⟨#[58]⟩ = 1 := rfl; have h32 : ByteArray.size ⟨#[32]⟩ = 1 := rfl; omega
    have m3 : Sml (twoD (t / 3600) ++ ⟨#[58]⟩ ++ twoD (t / 60 % 60) ++ ⟨#[58]⟩) := by unfold Sml; (try simp only [ByteArray.size_append]); have h58 : ByteArray.size ⟨#[58]⟩ = 1 := rfl; have h32 : ByteArray.size ⟨#[32]⟩ = 1 := rfl; omega
    have m4 : Sml (twoD (t / 3600) ++ ⟨#[58]⟩ ++ twoD (t / 60 % 60) ++ ⟨#[58]⟩ ++ twoD (t % 60)) := by unfold Sml; (try simp only [ByteArray.size_append]); have h58 : ByteArray.size ⟨#[58]⟩ = 1 := rfl; have h32 : ByteArray.size ⟨#[32]⟩ = 1 := rfl; omega
    have m5 : Sml (twoD (t / 3600) ++ ⟨#[58]⟩ ++ twoD (t / 60 % 60) ++ ⟨#[58]⟩ ++ twoD (t % 60) ++ ⟨#[32]⟩) := by unfold Sml; (try simp only [ByteArray.size_append]); have h58 : ByteArray.size ⟨#[58]⟩ = 1 := rfl; have h32 : ByteArray.size ⟨#[32]⟩ = 1 := rfl; omega
    have m6 : Sml (twoD (t / 3600) ++ ⟨#[58]⟩ ++ twoD (t / 60 % 60) ++ ⟨#[58]⟩ ++ twoD (t % 60) ++ ⟨#[32]⟩ ++ wordN kk) := by unfold Sml; (try simp only [ByteArray.size_append]); have h58 : ByteArray.size ⟨#[58]⟩ = 1 := rfl; have h32 : ByteArray.size ⟨#[32]⟩ = 1 := rfl; omega
    have m7 : Sml (twoD (t / 60 % 60)) := by unfold Sml; (try simp only [ByteArray.size_append]); have h58 : ByteArray.size ⟨#[58]⟩ = 1 := rfl; have h32 : ByteArray.size ⟨#[32]⟩ = 1 := rfl; omega
    have m8 : Sml (twoD (t % 60)) := by unfold Sml; (try simp only [ByteArray.size_append]); have h58 : ByteArray.size ⟨#[58]⟩ = 1 := rfl; have h32 : ByteArray.size ⟨#[32]⟩ = 1 := rfl; omega
    have m9 : Sml ((⟨#[58]⟩ : ByteArray)) := by unfold Sml; (try simp only [ByteArray.size_append]); have h58 : ByteArray.size ⟨#[58]⟩ = 1 := rfl; have h32 : ByteArray.size ⟨#[32]⟩ = 1 := rfl; omega
    have m10 : Sml ((⟨#[32]⟩ : ByteArray)) := by unfold Sml; (try simp only [ByteArray.size_append]); have h58 : ByteArray.size ⟨#[58]⟩ = 1 := rfl; have h32 : ByteArray.size ⟨#[32]⟩ = 1 := rfl; omega
    have m11 : Sml (wordN kk) := by unfold Sml; (try simp only [ByteArray.size_append]); have h58 : ByteArray.size ⟨#[58]⟩ = 1 := rfl; have h32 : ByteArray.size ⟨#[32]⟩ = 1 := rfl; omega
    have m12 : Sml (numS s) := by unfold Sml; (try simp only [ByteArray.size_append]); have h58 : ByteArray.size ⟨#[58]⟩ = 1 := rfl; have h32 : ByteArray.size ⟨#[32]⟩ = 1 := rfl; omega
    have m13 : Sml ((⟨#[32]⟩ : ByteArray) ++ numS s) := by unfold Sml; (try simp only [ByteArray.size_append]); have h58 : ByteArray.size ⟨#[58]⟩ = 1 := rfl; have h32 : ByteArray.size ⟨#[32]⟩ = 1 := rfl; omega
    clear hc hsk z1 z2 z3 z4 z5
    go_enter Tryd.func8, Tryd.ntmps8
    go_upto_region 3 with (first | (go_at_call 48; ((with_reducible refine (tiClockT_any _ _).mono ?_); rintro e w' ⟨rfl, rfl⟩)) | (go_at_call 49; ((with_reducible refine (l1In_any _ _ _ _).mono ?_); rintro e w' ⟨rfl, rfl⟩)))
    generalize hw0 : w.alloc (.cells #[.int .i64 t, .int .i64 kk, .int .i64 s] 26) = w0 at *
    have hb0 : Below w.heap.size w w0 := by rw [← hw0]; repeat (first | exact Below.refl _ _ | assumption | refine bExt ?_ _ | refine bAlloc ?_ _ | refine bDrewN ?_ _ | refine bDrew ?_ | refine bSet ?_ (by first | exact Nat.le_refl _ | omega | (simp; done) | (simp; omega)) _)
    have hlt : w.heap.size < w0.heap.size := by rw [← hw0]; simp
    have k0 : w0.cell? ⟨w.heap.size, 0, none⟩ = some (.int .i64 t) := by rw [← hw0]; simp [go_sem]
    have k1 : w0.cell? ⟨w.heap.size, 1, none⟩ = some (.int .i64 kk) := by rw [← hw0]; simp [go_sem]
    have k2 : w0.cell? ⟨w.heap.size, 2, none⟩ = some (.int .i64 s) := by rw [← hw0]; simp [go_sem]
    clear hw0
    generalize hp : w.heap.size = p at *
    have Hp := Lib.hid hp
    clear hp
    go_cut [4] (fun v wx => v = .string (twoD (t / 3600) ++ ⟨#[58]⟩ ++ twoD (t / 60 % 60) ++ ⟨#[58]⟩ ++ twoD (t % 60) ++ ⟨#[32]⟩ ++ wordN kk) ∧ Below w0.heap.size w0 wx)
    case first =>
      refine wp_region_held_drew (S := fun w' => w'.cell? ⟨p, 0, none⟩ = some (.int .i64 t) ∧ w'.cell? ⟨p, 1, none⟩ = some (.int .i64 kk)) (by kernel_rfl) ⟨(Below.cell (w := w0) (by repeat (first | exact Below.refl _ _ | assumption | refine bExt ?_ _ | refine bAlloc ?_ _ | refine bDrewN ?_ _ | refine bDrew ?_ | refine bSet ?_ (by first | exact Nat.le_refl _ | omega | (simp; done) | (simp; omega)) _)) (p := ⟨p, 0, none⟩) hlt).trans k0, (Below.cell (w := w0) (by repeat (first | exact Below.refl _ _ | assumption | refine bExt ?_ _ | refine bAlloc ?_ _ | refine bDrewN ?_ _ | refine bDrew ?_ | refine bSet ?_ (by first | exact Nat.le_refl _ | omega | (simp; done) | (simp; omega)) _)) (p := ⟨p, 1, none⟩) hlt).trans k1⟩ (fun hHeld => ?_)
      refine wpAnyH_take (i := 0) (v := ?_) rfl (by kernel_rfl) (by kernel_rfl) (by kernel_rfl) (fun _ _ _ h => h) (Or.inl ⟨by rfl, ?_⟩) (by assumption) ?_
      rotate_left
      · first | (intro w' hSw; (try dsimp only at hSw); go_simp; done) | (intro w' hSw; (try dsimp only at hSw); go_simp; with_reducible rfl)
      try simp only [Act.put, List.setIfInBounds_toArray, List.set_cons_zero, List.set_cons_succ]
      refine wpAnyH_take (i := 1) (v := ?_) rfl (by kernel_rfl) (by kernel_rfl) (by kernel_rfl) (fun _ _ _ h => h) (Or.inl ⟨by rfl, ?_⟩) (by assumption) ?_
      rotate_left
      · first | (intro w' hSw; (try dsimp only at hSw); go_simp; done) | (intro w' hSw; (try dsimp only at hSw); go_simp; with_reducible rfl)
      try simp only [Act.put, List.setIfInBounds_toArray, List.set_cons_zero, List.set_cons_succ]
      refine wpAnyH_take (i := 2) (v := ?_) rfl (by kernel_rfl) (by kernel_rfl) (by kernel_rfl) (fun _ _ _ h => h) (Or.inl ⟨by rfl, ?_⟩) (by assumption) ?_
      rotate_left
      · first | (intro w' hSw; (try dsimp only at hSw); go_simp; done) | (intro w' hSw; (try dsimp only at hSw); go_simp; with_reducible rfl)
      try simp only [Act.put, List.setIfInBounds_toArray, List.set_cons_zero, List.set_cons_succ]
      refine wpAnyH_take (i := 5) (v := ?_) rfl (by kernel_rfl) (by kernel_rfl) (by kernel_rfl) (fun _ _ _ h => h) (Or.inl ⟨by rfl, ?_⟩) (by assumption) ?_
      rotate_left
      · first | (intro w' hSw; (try dsimp only at hSw); go_simp; done) | (intro w' hSw; (try dsimp only at hSw); go_simp; with_reducible rfl)
      try simp only [Act.put, List.setIfInBounds_toArray, List.set_cons_zero, List.set_cons_succ]
      refine wpAnyH_take (i := 6) (v := ?_) rfl (by kernel_rfl) (by kernel_rfl) (by kernel_rfl) (fun _ _ _ h => h) (Or.inl ⟨by rfl, ?_⟩) (by assumption) ?_
      rotate_left
      · first | (intro w' hSw; (try dsimp only at hSw); go_simp; done) | (intro w' hSw; (try dsimp only at hSw); go_simp; with_reducible rfl)
      try simp only [Act.put, List.setIfInBounds_toArray, List.set_cons_zero, List.set_cons_succ]
      refine wpAnyH_take (i := 7) (v := ?_) rfl (by kernel_rfl) (by kernel_rfl) (by kernel_rfl) (fun _ _ _ h => h) (Or.inl ⟨by rfl, ?_⟩) (by assumption) ?_
      rotate_left
      · first | (intro w' hSw; (try dsimp only at hSw); go_simp; done) | (intro w' hSw; (try dsimp only at hSw); go_simp; with_reducible rfl)
      try simp only [Act.put, List.setIfInBounds_toArray, List.set_cons_zero, List.set_cons_succ]
      refine wpAnyH_take (i := 8) (v := ?_) rfl (by kernel_rfl) (by kernel_rfl) (by kernel_rfl) (fun _ _ _ h => h) (Or.inl ⟨by rfl, ?_⟩) (by assumption) ?_
      rotate_left
      · first | (intro w' hSw; (try dsimp only at hSw); go_simp; done) | (intro w' hSw; (try dsimp only at hSw); go_simp; with_reducible rfl)
      try simp only [Act.put, List.setIfInBounds_toArray, List.set_cons_zero, List.set_cons_succ]
      refine wpAnyH_take (i := 12) (v := ?_) rfl (by kernel_rfl) (by kernel_rfl) (by kernel_rfl) (fun _ _ _ h => h) (Or.inl ⟨by rfl, ?_⟩) (by assumption) ?_
      rotate_left
      · first | (intro w' hSw; (try dsimp only at hSw); go_simp; done) | (intro w' hSw; (try dsimp only at hSw); go_simp; with_reducible rfl)
      try simp only [Act.put, List.setIfInBounds_toArray, List.set_cons_zero, List.set_cons_succ]
      refine wpAnyH_take (i := 13) (v := ?_) rfl (by kernel_rfl) (by kernel_rfl) (by kernel_rfl) (fun _ _ _ h => h) (Or.inl ⟨by rfl, ?_⟩) (by assumption) ?_
      rotate_left
      · first | (intro w' hSw; (try dsimp only at hSw); go_simp; done) | (intro w' hSw; (try dsimp only at hSw); go_simp; with_reducible rfl)
      try simp only [Act.put, List.setIfInBounds_toArray, List.set_cons_zero, List.set_cons_succ]
      refine wpAnyH_take (i := 14) (v := ?_) rfl (by kernel_rfl) (by kernel_rfl) (by kernel_rfl) (fun _ _ _ h => h) (Or.inl ⟨by rfl, ?_⟩) (by assumption) ?_
      rotate_left
      · first | (intro w' hSw; (try dsimp only at hSw); go_simp; done) | (intro w' hSw; (try dsimp only at hSw); go_simp; with_reducible rfl)
      try simp only [Act.put, List.setIfInBounds_toArray, List.set_cons_zero, List.set_cons_succ]
      refine wpAnyH_take (i := 19) (v := ?_) rfl (by kernel_rfl) (by kernel_rfl) (by kernel_rfl) (fun _ _ _ h => h) (Or.inl ⟨by rfl, ?_⟩) (by assumption) ?_
      rotate_left
      · first | (intro w' hSw; (try dsimp only at hSw); go_simp; done) | (intro w' hSw; (try dsimp only at hSw); go_simp; with_reducible rfl)
      try simp only [Act.put, List.setIfInBounds_toArray, List.set_cons_zero, List.set_cons_succ]
      refine wpAnyH_take (i := 20) (v := ?_) rfl (by kernel_rfl) (by kernel_rfl) (by kernel_rfl) (fun _ _ _ h => h) (Or.inl ⟨by rfl, ?_⟩) (by assumption) ?_
      rotate_left
      · first | (intro w' hSw; (try dsimp only at hSw); go_simp; done) | (intro w' hSw; (try dsimp only at hSw); go_simp; with_reducible rfl)
      try simp only [Act.put, List.setIfInBounds_toArray, List.set_cons_zero, List.set_cons_succ]
      refine wpAnyH_ready (rs := [3]) (by kernel_rfl) (by simp) ?_
      refine AllReadyH.cons rfl (fun K hK => ?_) AllReadyH.nil
      go_simp
      (go_at_call 50; ((with_reducible refine (srTwo_any _ _ (by omega) (by omega)).mono ?_); rintro e w' ⟨rfl, x, rfl⟩))
      try go_wp2_with fail
      refine hK.out _ _ ⟨(Below.cell (w := w0) (by repeat (first | exact Below.refl _ _ | assumption | refine bExt ?_ _ | refine bAlloc ?_ _ | refine bDrewN ?_ _ | refine bDrew ?_ | refine bSet ?_ (by first | exact Nat.le_refl _ | omega | (simp; done) | (simp; omega)) _)) (p := ⟨p, 0, none⟩) hlt).trans k0, (Below.cell (w := w0) (by repeat (first | exact Below.refl _ _ | assumption | refine bExt ?_ _ | refine bAlloc ?_ _ | refine bDrewN ?_ _ | refine bDrew ?_ | refine bSet ?_ (by first | exact Nat.le_refl _ | omega | (simp; done) | (simp; omega)) _)) (p := ⟨p, 1, none⟩) hlt).trans k1⟩ (fun hHeld => ?_)
      clear hK K
      try simp only [Act.put, List.setIfInBounds_toArray, List.set_cons_zero, List.set_cons_succ]
      refine wpAnyH_take (i := 4) (v := ?_) rfl (by kernel_rfl) (by kernel_rfl) (by kernel_rfl) (fun _ _ _ h => h) (Or.inl ⟨by rfl, ?_⟩) (by assumption) ?_
      rotate_left
      · first | (intro w' hSw; (try dsimp only at hSw); go_simp; done) | (intro w' hSw; (try dsimp only at hSw); go_simp; with_reducible rfl)
      try simp only [Act.put, List.setIfInBounds_toArray, List.set_cons_zero, List.set_cons_succ]
      refine wpAnyH_ready (rs := [9]) (by kernel_rfl) (by simp) ?_
      refine AllReadyH.cons rfl (fun K hK => ?_) AllReadyH.nil
      go_simp
      (go_at_call 50; ((with_reducible refine (srTwo_any _ _ (by omega) (by omega)).mono ?_); rintro e w' ⟨rfl, x, rfl⟩))
      try go_wp2_with fail
      refine hK.out _ _ ⟨(Below.cell (w := w0) (by repeat (first | exact Below.refl _ _ | assumption | refine bExt ?_ _ | refine bAlloc ?_ _ | refine bDrewN ?_ _ | refine bDrew ?_ | refine bSet ?_ (by first | exact Nat.le_refl _ | omega | (simp; done) | (simp; omega)) _)) (p := ⟨p, 0, none⟩) hlt).trans k0, (Below.cell (w := w0) (by repeat (first | exact Below.refl _ _ | assumption | refine bExt ?_ _ | refine bAlloc ?_ _ | refine bDrewN ?_ _ | refine bDrew ?_ | refine bSet ?_ (by first | exact Nat.le_refl _ | omega | (simp; done) | (simp; omega)) _)) (p := ⟨p, 1, none⟩) hlt).trans k1⟩ (fun hHeld => ?_)
      clear hK K
      try simp only [Act.put, List.setIfInBounds_toArray, List.set_cons_zero, List.set_cons_succ]
      refine wpAnyH_take (i := 10) (v := ?_) rfl (by kernel_rfl) (by kernel_rfl) (by kernel_rfl) (fun _ _ _ h => h) (Or.inl ⟨by rfl, ?_⟩) (by assumption) ?_
      rotate_left
      · first | (intro w' hSw; (try dsimp only at hSw); go_simp; done) | (intro w' hSw; (try dsimp only at hSw); go_simp; with_reducible rfl)
      try simp only [Act.put, List.setIfInBounds_toArray, List.set_cons_zero, List.set_cons_succ]
      refine wpAnyH_take (i := 11) (v := ?_) rfl (by kernel_rfl) (by kernel_rfl) (by kernel_rfl) (fun _ _ _ h => h) (Or.inl ⟨by rfl, ?_⟩) (by assumption) ?_
      rotate_left
      · first | (intro w' hSw; (try dsimp only at hSw); go_simp; done) | (intro w' hSw; (try dsimp only at hSw); go_simp; with_reducible rfl)
      try simp only [Act.put, List.setIfInBounds_toArray, List.set_cons_zero, List.set_cons_succ]
      refine wpAnyH_ready (rs := [15]) (by kernel_rfl) (by simp) ?_
      refine AllReadyH.cons rfl (fun K hK => ?_) AllReadyH.nil
      go_simp
      (go_at_call 50; ((with_reducible refine (srTwo_any _ _ (by omega) (by omega)).mono ?_); rintro e w' ⟨rfl, x, rfl⟩))
      try go_wp2_with fail
      refine hK.out _ _ ⟨(Below.cell (w := w0) (by repeat (first | exact Below.refl _ _ | assumption | refine bExt ?_ _ | refine bAlloc ?_ _ | refine bDrewN ?_ _ | refine bDrew ?_ | refine bSet ?_ (by first | exact Nat.le_refl _ | omega | (simp; done) | (simp; omega)) _)) (p := ⟨p, 0, none⟩) hlt).trans k0, (Below.cell (w := w0) (by repeat (first | exact Below.refl _ _ | assumption | refine bExt ?_ _ | refine bAlloc ?_ _ | refine bDrewN ?_ _ | refine bDrew ?_ | refine bSet ?_ (by first | exact Nat.le_refl _ | omega | (simp; done) | (simp; omega)) _)) (p := ⟨p, 1, none⟩) hlt).trans k1⟩ (fun hHeld => ?_)
      clear hK K
      try simp only [Act.put, List.setIfInBounds_toArray, List.set_cons_zero, List.set_cons_succ]
      refine wpAnyH_take (i := 16) (v := ?_) rfl (by kernel_rfl) (by kernel_rfl) (by kernel_rfl) (fun _ _ _ h => h) (Or.inl ⟨by rfl, ?_⟩) (by assumption) ?_
      rotate_left
      · first | (intro w' hSw; (try dsimp only at hSw); go_simp; done) | (intro w' hSw; (try dsimp only at hSw); go_simp; with_reducible rfl)
      try simp only [Act.put, List.setIfInBounds_toArray, List.set_cons_zero, List.set_cons_succ]
      refine wpAnyH_take (i := 17) (v := ?_) rfl (by kernel_rfl) (by kernel_rfl) (by kernel_rfl) (fun _ _ _ h => h) (Or.inl ⟨by rfl, ?_⟩) (by assumption) ?_
      rotate_left
      · first | (intro w' hSw; (try dsimp only at hSw); go_simp; done) | (intro w' hSw; (try dsimp only at hSw); go_simp; with_reducible rfl)
      try simp only [Act.put, List.setIfInBounds_toArray, List.set_cons_zero, List.set_cons_succ]
      refine wpAnyH_ready (rs := [18]) (by kernel_rfl) (by simp) ?_
      refine AllReadyH.cons rfl (fun K hK => ?_) AllReadyH.nil
      go_simp
      (go_at_call 51; ((with_reducible refine (srWords_any _).mono ?_); rintro e w' ⟨g, x, rfl, rfl, hck⟩))
      have hkc := hck kk hk5
      try go_wp2_with fail
      refine hK.out _ _ ⟨(Below.cell (w := w0) (by repeat (first | exact Below.refl _ _ | assumption | refine bExt ?_ _ | refine bAlloc ?_ _ | refine bDrewN ?_ _ | refine bDrew ?_ | refine bSet ?_ (by first | exact Nat.le_refl _ | omega | (simp; done) | (simp; omega)) _)) (p := ⟨p, 0, none⟩) hlt).trans k0, (Below.cell (w := w0) (by repeat (first | exact Below.refl _ _ | assumption | refine bExt ?_ _ | refine bAlloc ?_ _ | refine bDrewN ?_ _ | refine bDrew ?_ | refine bSet ?_ (by first | exact Nat.le_refl _ | omega | (simp; done) | (simp; omega)) _)) (p := ⟨p, 1, none⟩) hlt).trans k1⟩ (fun hHeld => ?_)
      clear hK K
      try simp only [Act.put, List.setIfInBounds_toArray, List.set_cons_zero, List.set_cons_succ]
      refine wpAnyH_take (i := 21) (v := ?_) rfl (by kernel_rfl) (by kernel_rfl) (by kernel_rfl) (fun _ _ _ h => h) (Or.inl ⟨by rfl, ?_⟩) (by assumption) ?_
      rotate_left
      · first | (intro w' hSw; (try dsimp only at hSw); go_simp; done) | (intro w' hSw; (try dsimp only at hSw); go_simp; with_reducible rfl)
      try simp only [Act.put, List.setIfInBounds_toArray, List.set_cons_zero, List.set_cons_succ]
      refine wpAnyH_ready (rs := [22]) (by kernel_rfl) (by simp) ?_
      refine AllReadyH.cons rfl (fun K hK => ?_) AllReadyH.nil
      go_simp
      refine hK.out _ _ ⟨(Below.cell (w := w0) (by repeat (first | exact Below.refl _ _ | assumption | refine bExt ?_ _ | refine bAlloc ?_ _ | refine bDrewN ?_ _ | refine bDrew ?_ | refine bSet ?_ (by first | exact Nat.le_refl _ | omega | (simp; done) | (simp; omega)) _)) (p := ⟨p, 0, none⟩) hlt).trans k0, (Below.cell (w := w0) (by repeat (first | exact Below.refl _ _ | assumption | refine bExt ?_ _ | refine bAlloc ?_ _ | refine bDrewN ?_ _ | refine bDrew ?_ | refine bSet ?_ (by first | exact Nat.le_refl _ | omega | (simp; done) | (simp; omega)) _)) (p := ⟨p, 1, none⟩) hlt).trans k1⟩ (fun hHeld => ?_)
      clear hK K
      try simp only [Act.put, List.setIfInBounds_toArray, List.set_cons_zero, List.set_cons_succ]
      refine wpAnyH_ready (rs := [23]) (by kernel_rfl) (by simp) ?_
      refine AllReadyH.cons rfl (fun K hK => ?_) AllReadyH.nil
      go_simp
      refine hK.out _ _ ⟨(Below.cell (w := w0) (by repeat (first | exact Below.refl _ _ | assumption | refine bExt ?_ _ | refine bAlloc ?_ _ | refine bDrewN ?_ _ | refine bDrew ?_ | refine bSet ?_ (by first | exact Nat.le_refl _ | omega | (simp; done) | (simp; omega)) _)) (p := ⟨p, 0, none⟩) hlt).trans k0, (Below.cell (w := w0) (by repeat (first | exact Below.refl _ _ | assumption | refine bExt ?_ _ | refine bAlloc ?_ _ | refine bDrewN ?_ _ | refine bDrew ?_ | refine bSet ?_ (by first | exact Nat.le_refl _ | omega | (simp; done) | (simp; omega)) _)) (p := ⟨p, 1, none⟩) hlt).trans k1⟩ (fun hHeld => ?_)
      clear hK K
      try simp only [Act.put, List.setIfInBounds_toArray, List.set_cons_zero, List.set_cons_succ]
      refine wpAnyH_ready (rs := [24]) (by kernel_rfl) (by simp) ?_
      refine AllReadyH.cons rfl (fun K hK => ?_) AllReadyH.nil
      go_simp
      refine hK.out _ _ ⟨(Below.cell (w := w0) (by repeat (first | exact Below.refl _ _ | assumption | refine bExt ?_ _ | refine bAlloc ?_ _ | refine bDrewN ?_ _ | refine bDrew ?_ | refine bSet ?_ (by first | exact Nat.le_refl _ | omega | (simp; done) | (simp; omega)) _)) (p := ⟨p, 0, none⟩) hlt).trans k0, (Below.cell (w := w0) (by repeat (first | exact Below.refl _ _ | assumption | refine bExt ?_ _ | refine bAlloc ?_ _ | refine bDrewN ?_ _ | refine bDrew ?_ | refine bSet ?_ (by first | exact Nat.le_refl _ | omega | (simp; done) | (simp; omega)) _)) (p := ⟨p, 1, none⟩) hlt).trans k1⟩ (fun hHeld => ?_)
      clear hK K
      try simp only [Act.put, List.setIfInBounds_toArray, List.set_cons_zero, List.set_cons_succ]
      refine wpAnyH_done (by kernel_rfl) ?_ _
      try go_wp2
      go_meet
      exact ⟨rfl, by repeat (first | exact Below.refl _ _ | assumption | refine bExt ?_ _ | refine bAlloc ?_ _ | refine bDrewN ?_ _ | refine bDrew ?_ | refine bSet ?_ (by first | exact Nat.le_refl _ | omega | (simp; done) | (simp; omega)) _)⟩
    case rest =>
      obtain ⟨rfl, bz⟩ := hcut
      rename World => w1
      have k2' := (bz.cell (p := ⟨p, 2, none⟩) hlt).trans k2
      by_cases hs : 0 < s
      · go_wp2_with ((go_at_call 52; ((with_reducible refine (l1Num_fuel 2 _ _ hs0 (by omega) (by omega) (by omega)).mono ?_); rintro e w' ⟨rfl, x9, rfl⟩)))
        go_ret2
        exact RetSB.mk_ (by rw [HV.out, if_pos hs, HH.out]) rfl (by rw [Hp.out]; exact (hb0.trans (bz.mono (Nat.le_of_lt hlt))).trans ((ext_below _ _).mono (Nat.le_trans (Nat.le_of_lt hlt) bz.size)))
      · go_wp2
        go_ret2
        exact RetSB.mk_ (by rw [HV.out, if_neg (by omega), HH.out]) rfl (by rw [Hp.out]; exact hb0.trans (bz.mono (Nat.le_of_lt hlt)))
end Go.Proofs.YtogglhgagblihaaDoor
