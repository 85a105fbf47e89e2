/- The text of a cue, in the program and in the reference. Conditions: the table that strconv.Itoa reads. -/
import Derived.Test.YtogglhgagblihaaDoorNumI
import Derived.Test.YtogglhgagblihaaDoorL1
import Derived.Laws.Concat
import Derived.Deep.RegionHeldLaw
set_option linter.unusedVariables false
set_option linter.unusedSimpArgs false
set_option maxRecDepth 100000
namespace Go.Proofs.YtogglhgagblihaaDoor
open Go.RowKit
def cueB (t k s : Int) : Bool := inB t 0 200000 && (inB k 1 4 && (inB s 0 999 && (decide (s = 0) == decide (k = 1))))
/-- The word of a kind. -/
def wordC (k : Int) : ByteArray := if k = 1 then ⟨#[119, 97, 114, 109, 45, 117, 112]⟩ else if k = 2 then ⟨#[115, 116, 97, 114, 116]⟩ else if k = 3 then ⟨#[101, 110, 100]⟩ else ⟨#[115, 99, 111, 114, 101]⟩
def cueH (t k : Int) : ByteArray := twoD (t / 3600) ++ ⟨#[58]⟩ ++ twoD (t / 60 % 60) ++ ⟨#[58]⟩ ++ twoD (t % 60) ++ ⟨#[32]⟩ ++ wordC k
def cueT (t k s : Int) : ByteArray := if cueB t k s then (if 0 < s then cueH t k ++ (⟨#[32]⟩ ++ numS s) else cueH t k) else ByteArray.empty
theorem cueB_of {t k s : Int} (h : cueB t k s = true) : (0 ≤ t ∧ t ≤ 200000) ∧ (1 ≤ k ∧ k ≤ 4) ∧ (0 ≤ s ∧ s ≤ 999) ∧ (s = 0 ↔ k = 1) := by
  simp only [cueB, Bool.and_eq_true, beq_iff_eq, decide_eq_decide] at h
  exact ⟨inB_iff.1 h.1, inB_iff.1 h.2.1, inB_iff.1 h.2.2.1, h.2.2.2⟩
theorem beq_both {s k : Int} (h : (s == 0) = (k == 1)) : s = 0 ↔ k = 1 := by
  rw [Bool.eq_iff_iff, beq_iff_eq, beq_iff_eq] at h
  exact h
/-- A short string. -/
def Sml (a : ByteArray) : Prop := a.size ≤ 1000
theorem run_add_sml {P : Program} (w : World) (a b : ByteArray) (ha : Sml a) (hb : Sml b) : (Op.stringOp .add a b).run P w = .ok (.string (a ++ b)) w := run_string_add_sum w a b (by unfold Sml at ha hb; omega)
attribute [go_sem high] run_add_sml
def RetSB (w : World) (s : ByteArray) (ok : Bool) (e : Ending) (w' : World) : Prop := ∃ x, e = .returned (.tuple #[.string s, .bool ok]) ∧ w' = ext w x
theorem RetSB.mk_ {w W : World} {s s' : ByteArray} {ok ok' : Bool} (hs : s' = s) (hk : ok' = ok) (hb : Below w.heap.size w W) : RetSB w s ok (.returned (.tuple #[.string s', .bool ok'])) W := by
  subst hs hk
  obtain ⟨x, rfl⟩ := ext_ex hb
  exact ⟨x, rfl, rfl⟩
theorem tiClockT_any (a : Int) (w : World) :
    Calls Tryd.prog 48 #[.int .i64 a] w fun e w' => e = .returned (.bool (inB a 0 200000)) ∧ w = w' := by
  go_enter Tryd.func48, Tryd.ntmps48
  go_wp2_with ((go_at_call 49; ((with_reducible refine (l1In_any _ _ _ _).mono ?_); rintro e w' ⟨rfl, rfl⟩)))
  go_ret
  exact ⟨rfl, rfl⟩
theorem isDayTimeT_any (a : Int) (w : World) :
    Calls Tryd.prog 53 #[.int .i64 a] w fun e w' => e = .returned (.bool (inB a 0 200000)) ∧ w = w' := by
  go_enter Tryd.func53, Tryd.ntmps53
  go_wp2_with ((go_at_call 54; ((with_reducible refine (within_any _ _ _ _).mono ?_); rintro e w' ⟨rfl, rfl⟩)))
  go_ret
  exact ⟨rfl, rfl⟩
set_option maxHeartbeats 4000000 in
theorem implCueText_any (t k s : Int) (w : World) (hT : Tab w) :
    Calls Tryd.prog 10 #[.agg #[.int .i64 t, .int .i64 k, .int .i64 s]] w (RetSB w (cueT t k s) (cueB t k s)) := by
  cases hc : cueB t k s
  · have HV : Hid (cueT t k s = ByteArray.empty) := Lib.hid (by simp [cueT, hc])
    unfold cueB at hc
    go_enter Tryd.func10, Tryd.ntmps10
    go_wp2_with (first | (go_at_call 53; ((with_reducible refine (isDayTimeT_any _ _).mono ?_); rintro e w' ⟨rfl, rfl⟩)) | (go_at_call 54; ((with_reducible refine (within_any _ _ _ _).mono ?_); rintro e w' ⟨rfl, rfl⟩)))
    all_goals first | (go_ret2; exact RetSB.mk_ (by rw [HV.out]; rfl) rfl (by repeat (first | exact Below.refl _ _ | assumption | refine bExt ?_ _ | refine bAlloc ?_ _ | refine bDrewN ?_ _ | refine bDrew ?_ | refine bSet ?_ (by first | exact Nat.le_refl _ | omega | (simp; done) | (simp; omega)) _))) | (exfalso; simp_all; done) | (exfalso; simp_all; exact hc (beq_both (by assumption)))
  · obtain ⟨⟨ht0, ht1⟩, ⟨hk0, hk1⟩, ⟨hs0, hs1⟩, hsk⟩ := cueB_of hc
    have i1 : inB t 0 200000 = true := inB_iff.2 ⟨ht0, ht1⟩
    have i3 : inB s 0 999 = true := inB_iff.2 ⟨hs0, hs1⟩
    have z1 := twoD_size (n := t / 3600) (by omega) (by omega)
    have z2 := twoD_size (n := t / 60 % 60) (by omega) (by omega)
    have z3 := twoD_size (n := t % 60) (by omega) (by omega)
    have z4 := numS_size 2 s hs0 (by omega)
    have e1 : t.tdiv 3600 = t / 3600 := Int.tdiv_eq_ediv_of_nonneg ht0
    have e2 : IntKind.i64.wrap (t / 3600) = t / 3600 := IntWalk.i64_in _ (by omega)
    have e3 : t.tdiv 60 = t / 60 := Int.tdiv_eq_ediv_of_nonneg ht0
    have e4 : IntKind.i64.wrap (t / 60) = t / 60 := IntWalk.i64_in _ (by omega)
    have e5 : (t / 60).tmod 60 = t / 60 % 60 := Int.tmod_eq_emod_of_nonneg (by omega)
    have e6 : t.tmod 60 = t % 60 := Int.tmod_eq_emod_of_nonneg ht0
    rcases (by omega : k = 1 ∨ k = 2 ∨ k = 3 ∨ k = 4) with rfl | rfl | rfl | rfl
    · obtain rfl : s = 0 := hsk.2 rfl
      have HV : Hid (cueT t 1 0 = twoD (t / 3600) ++ ⟨#[58]⟩ ++ twoD (t / 60 % 60) ++ ⟨#[58]⟩ ++ twoD (t % 60) ++ ⟨#[32]⟩ ++ ⟨#[119, 97, 114, 109, 45, 117, 112]⟩) := Lib.hid (by rw [cueT, if_pos hc, if_neg (by omega)]; rfl)
      have i2 : inB 1 1 4 = true := rfl
      have m0 : Sml (twoD (t / 3600)) := by unfold Sml; (try simp only [ByteArray.size_append]); have h58 : ByteArray.size ⟨#[58]⟩ = 1 := rfl; have h32 : ByteArray.size ⟨#[32]⟩ = 1 := rfl; have hw : ByteArray.size ⟨#[119, 97, 114, 109, 45, 117, 112]⟩ = 7 := rfl; omega
      have m1 : Sml (twoD (t / 3600) ++ ⟨#[58]⟩) := by unfold Sml; (try simp only [ByteArray.size_append]); have h58 : ByteArray.size ⟨#[58]⟩ = 1 := rfl; have h32 : ByteArray.size ⟨#[32]⟩ = 1 := rfl; have hw : ByteArray.size ⟨#[119, 97, 114, 109, 45, 117, 112]⟩ = 7 := rfl; omega
      have m2 : Sml (twoD (t / 3600) ++ ⟨#[58]⟩ ++ twoD (t / 60 % 60)) := by unfold Sml; (try simp only [ByteArray.size_append]); have h58 : ByteArray.size ⟨#[58]⟩ = 1 := rfl; have h32 : ByteArray.size ⟨#[32]⟩ = 1 := rfl; have hw : ByteArray.size ⟨#[119, 97, 114, 109, 45, 117, 112]⟩ = 7 := rfl; omega
      have m3 : Sml (twoD (t / 3600) ++ ⟨#[58]⟩ ++ twoD (t / 60 % 60) ++ ⟨#[58]⟩) := by unfold Sml; (try simp only [ByteArray.size_append]); have h58 : ByteArray.size ⟨#[58]⟩ = 1 := rfl; have h32 : ByteArray.size ⟨#[32]⟩ = 1 := rfl; have hw : ByteArray.size ⟨#[119, 97, 114, 109, 45, 117, 112]⟩ = 7 := rfl; omega
      have m4 : Sml (twoD (t / 3600) ++ ⟨#[58]⟩ ++ twoD (t / 60 % 60) ++ ⟨#[58]⟩ ++ twoD (t % 60)) := by unfold Sml; (try simp only [ByteArray.size_append]); have h58 : ByteArray.size ⟨#[58]⟩ = 1 := rfl; have h32 : ByteArray.size ⟨#[32]⟩ = 1 := rfl; have hw : ByteArray.size ⟨#[119, 97, 114, 109, 45, 117, 112]⟩ = 7 := rfl; omega
      have m5 : Sml (twoD (t / 3600) ++ ⟨#[58]⟩ ++ twoD (t / 60 % 60) ++ ⟨#[58]⟩ ++ twoD (t % 60) ++ ⟨#[32]⟩) := by unfold Sml; (try simp only [ByteArray.size_append]); have h58 : ByteArray.size ⟨#[58]⟩ = 1 := rfl; have h32 : ByteArray.size ⟨#[32]⟩ = 1 := rfl; have hw : ByteArray.size ⟨#[119, 97, 114, 109, 45, 117, 112]⟩ = 7 := rfl; omega
      have m6 : Sml (twoD (t / 3600) ++ ⟨#[58]⟩ ++ twoD (t / 60 % 60) ++ ⟨#[58]⟩ ++ twoD (t % 60) ++ ⟨#[32]⟩ ++ ⟨#[119, 97, 114, 109, 45, 117, 112]⟩) := by unfold Sml; (try simp only [ByteArray.size_append]); have h58 : ByteArray.size ⟨#[58]⟩ = 1 := rfl; have h32 : ByteArray.size ⟨#[32]⟩ = 1 := rfl; have hw : ByteArray.size ⟨#[119, 97, 114, 109, 45, 117, 112]⟩ = 7 := rfl; omega
      have m7 : Sml (twoD (t / 60 % 60)) := by unfold Sml; (try simp only [ByteArray.size_append]); have h58 : ByteArray.size ⟨#[58]⟩ = 1 := rfl; have h32 : ByteArray.size ⟨#[32]⟩ = 1 := rfl; have hw : ByteArray.size ⟨#[119, 97, 114, 109, 45, 117, 112]⟩ = 7 := rfl; omega
      have m8 : Sml (twoD (t % 60)) := by unfold Sml; (try simp only [ByteArray.size_append]); have h58 : ByteArray.size ⟨#[58]⟩ = 1 := rfl; have h32 : ByteArray.size ⟨#[32]⟩ = 1 := rfl; have hw : ByteArray.size ⟨#[119, 97, 114, 109, 45, 117, 112]⟩ = 7 := rfl; omega
      have m9 : Sml ((⟨#[58]⟩ : ByteArray)) := by unfold Sml; (try simp only [ByteArray.size_append]); have h58 : ByteArray.size ⟨#[58]⟩ = 1 := rfl; have h32 : ByteArray.size ⟨#[32]⟩ = 1 := rfl; have hw : ByteArray.size ⟨#[119, 97, 114, 109, 45, 117, 112]⟩ = 7 := rfl; omega
      have m10 : Sml ((⟨#[32]⟩ : ByteArray)) := by unfold Sml; (try simp only [ByteArray.size_append]); have h58 : ByteArray.size ⟨#[58]⟩ = 1 := rfl; have h32 : ByteArray.size ⟨#[32]⟩ = 1 := rfl; have hw : ByteArray.size ⟨#[119, 97, 114, 109, 45, 117, 112]⟩ = 7 := rfl; omega
      have m11 : Sml ((⟨#[119, 97, 114, 109, 45, 117, 112]⟩ : ByteArray)) := by unfold Sml; (try simp only [ByteArray.size_append]); have h58 : ByteArray.size ⟨#[58]⟩ = 1 := rfl; have h32 : ByteArray.size ⟨#[32]⟩ = 1 := rfl; have hw : ByteArray.size ⟨#[119, 97, 114, 109, 45, 117, 112]⟩ = 7 := rfl; omega
      have x0 : ∀ w : World, (Instr.index 83 (.agg #[.string ⟨#[]⟩, .string ⟨#[119, 97, 114, 109, 45, 117, 112]⟩, .string ⟨#[115, 116, 97, 114, 116]⟩, .string ⟨#[101, 110, 100]⟩, .string ⟨#[115, 99, 111, 114, 101]⟩]) (.int .i64 1)).run Tryd.prog w = .ok (.string ⟨#[119, 97, 114, 109, 45, 117, 112]⟩) w := fun _ => by kernel_rfl
      clear hc hsk z1 z2 z3 z4
      go_enter Tryd.func10, Tryd.ntmps10
      go_wp2_with (first | (go_at_call 53; ((with_reducible refine (isDayTimeT_any _ _).mono ?_); rintro e w' ⟨rfl, rfl⟩)) | (go_at_call 54; ((with_reducible refine (within_any _ _ _ _).mono ?_); rintro e w' ⟨rfl, rfl⟩)))
      go_region_held3 (fun w' => w'.cell? ⟨w.heap.size, 0, none⟩ = some (.int .i64 t)) (first | assumption | simp [*, go_sem]) (first | (go_at_call 55; ((with_reducible refine (twoDigits_any _ _ (by omega) (by omega)).mono ?_); rintro e w' ⟨rfl, rfl⟩)))
      go_wp2
      go_ret2
      exact RetSB.mk_ (by rw [HV.out]) rfl (by repeat (first | exact Below.refl _ _ | assumption | refine bExt ?_ _ | refine bAlloc ?_ _ | refine bDrewN ?_ _ | refine bDrew ?_ | refine bSet ?_ (by first | exact Nat.le_refl _ | omega | (simp; done) | (simp; omega)) _))
    · have hs : 0 < s := by omega
      have hsn : ¬ s = 0 := by omega
      have HV : Hid (cueT t 2 s = twoD (t / 3600) ++ ⟨#[58]⟩ ++ twoD (t / 60 % 60) ++ ⟨#[58]⟩ ++ twoD (t % 60) ++ ⟨#[32]⟩ ++ ⟨#[115, 116, 97, 114, 116]⟩ ++ (⟨#[32]⟩ ++ numS s)) := Lib.hid (by rw [cueT, if_pos hc, if_pos hs]; rfl)
      have i2 : inB 2 1 4 = true := rfl
      have m0 : Sml (twoD (t / 3600)) := by unfold Sml; (try simp only [ByteArray.size_append]); have h58 : ByteArray.size ⟨#[58]⟩ = 1 := rfl; have h32 : ByteArray.size ⟨#[32]⟩ = 1 := rfl; have hw : ByteArray.size ⟨#[115, 116, 97, 114, 116]⟩ = 5 := rfl; omega
      have m1 : Sml (twoD (t / 3600) ++ ⟨#[58]⟩) := by unfold Sml; (try simp only [ByteArray.size_append]); have h58 : ByteArray.size ⟨#[58]⟩ = 1 := rfl; have h32 : ByteArray.size ⟨#[32]⟩ = 1 := rfl; have hw : ByteArray.size ⟨#[115, 116, 97, 114, 116]⟩ = 5 := rfl; omega
      have m2 : Sml (twoD (t / 3600) ++ ⟨#[58]⟩ ++ twoD (t / 60 % 60)) := by unfold Sml; (try simp only [ByteArray.size_append]); have h58 : ByteArray.size ⟨#[58]⟩ = 1 := rfl; have h32 : ByteArray.size ⟨#[32]⟩ = 1 := rfl; have hw : ByteArray.size ⟨#[115, 116, 97, 114, 116]⟩ = 5 := rfl; omega
      have m3 : Sml (twoD (t / 3600) ++ ⟨#[58]⟩ ++ twoD (t / 60 % 60) ++ ⟨#[58]⟩) := by unfold Sml; (try simp only [ByteArray.size_append]); have h58 : ByteArray.size ⟨#[58]⟩ = 1 := rfl; have h32 : ByteArray.size ⟨#[32]⟩ = 1 := rfl; have hw : ByteArray.size ⟨#[115, 116, 97, 114, 116]⟩ = 5 := rfl; omega
      have m4 : Sml (twoD (t / 3600) ++ ⟨#[58]⟩ ++ twoD (t / 60 % 60) ++ ⟨#[58]⟩ ++ twoD (t % 60)) := by unfold Sml; (try simp only [ByteArray.size_append]); have h58 : ByteArray.size ⟨#[58]⟩ = 1 := rfl; have h32 : ByteArray.size ⟨#[32]⟩ = 1 := rfl; have hw : ByteArray.size ⟨#[115, 116, 97, 114, 116]⟩ = 5 := rfl; omega
      have m5 : Sml (twoD (t / 3600) ++ ⟨#[58]⟩ ++ twoD (t / 60 % 60) ++ ⟨#[58]⟩ ++ twoD (t % 60) ++ ⟨#[32]⟩) := by unfold Sml; (try simp only [ByteArray.size_append]); have h58 : ByteArray.size ⟨#[58]⟩ = 1 := rfl; have h32 : ByteArray.size ⟨#[32]⟩ = 1 := rfl; have hw : ByteArray.size ⟨#[115, 116, 97, 114, 116]⟩ = 5 := rfl; omega
      have m6 : Sml (twoD (t / 3600) ++ ⟨#[58]⟩ ++ twoD (t / 60 % 60) ++ ⟨#[58]⟩ ++ twoD (t % 60) ++ ⟨#[32]⟩ ++ ⟨#[115, 116, 97, 114, 116]⟩) := by unfold Sml; (try simp only [ByteArray.size_append]); have h58 : ByteArray.size ⟨#[58]⟩ = 1 := rfl; have h32 : ByteArray.size ⟨#[32]⟩ = 1 := rfl; have hw : ByteArray.size ⟨#[115, 116, 97, 114, 116]⟩ = 5 := rfl; omega
      have m7 : Sml (twoD (t / 60 % 60)) := by unfold Sml; (try simp only [ByteArray.size_append]); have h58 : ByteArray.size ⟨#[58]⟩ = 1 := rfl; have h32 : ByteArray.size ⟨#[32]⟩ = 1 := rfl; have hw : ByteArray.size ⟨#[115, 116, 97, 114, 116]⟩ = 5 := rfl; omega
      have m8 : Sml (twoD (t % 60)) := by unfold Sml; (try simp only [ByteArray.size_append]); have h58 : ByteArray.size ⟨#[58]⟩ = 1 := rfl; have h32 : ByteArray.size ⟨#[32]⟩ = 1 := rfl; have hw : ByteArray.size ⟨#[115, 116, 97, 114, 116]⟩ = 5 := rfl; omega
      have m9 : Sml ((⟨#[58]⟩ : ByteArray)) := by unfold Sml; (try simp only [ByteArray.size_append]); have h58 : ByteArray.size ⟨#[58]⟩ = 1 := rfl; have h32 : ByteArray.size ⟨#[32]⟩ = 1 := rfl; have hw : ByteArray.size ⟨#[115, 116, 97, 114, 116]⟩ = 5 := rfl; omega
      have m10 : Sml ((⟨#[32]⟩ : ByteArray)) := by unfold Sml; (try simp only [ByteArray.size_append]); have h58 : ByteArray.size ⟨#[58]⟩ = 1 := rfl; have h32 : ByteArray.size ⟨#[32]⟩ = 1 := rfl; have hw : ByteArray.size ⟨#[115, 116, 97, 114, 116]⟩ = 5 := rfl; omega
      have m11 : Sml ((⟨#[115, 116, 97, 114, 116]⟩ : ByteArray)) := by unfold Sml; (try simp only [ByteArray.size_append]); have h58 : ByteArray.size ⟨#[58]⟩ = 1 := rfl; have h32 : ByteArray.size ⟨#[32]⟩ = 1 := rfl; have hw : ByteArray.size ⟨#[115, 116, 97, 114, 116]⟩ = 5 := rfl; omega
      have m12 : Sml (numS s) := by unfold Sml; (try simp only [ByteArray.size_append]); have h58 : ByteArray.size ⟨#[58]⟩ = 1 := rfl; have h32 : ByteArray.size ⟨#[32]⟩ = 1 := rfl; have hw : ByteArray.size ⟨#[115, 116, 97, 114, 116]⟩ = 5 := rfl; omega
      have m13 : Sml ((⟨#[32]⟩ : ByteArray) ++ numS s) := by unfold Sml; (try simp only [ByteArray.size_append]); have h58 : ByteArray.size ⟨#[58]⟩ = 1 := rfl; have h32 : ByteArray.size ⟨#[32]⟩ = 1 := rfl; have hw : ByteArray.size ⟨#[115, 116, 97, 114, 116]⟩ = 5 := rfl; omega
      have x0 : ∀ w : World, (Instr.index 83 (.agg #[.string ⟨#[]⟩, .string ⟨#[119, 97, 114, 109, 45, 117, 112]⟩, .string ⟨#[115, 116, 97, 114, 116]⟩, .string ⟨#[101, 110, 100]⟩, .string ⟨#[115, 99, 111, 114, 101]⟩]) (.int .i64 2)).run Tryd.prog w = .ok (.string ⟨#[115, 116, 97, 114, 116]⟩) w := fun _ => by kernel_rfl
      clear hc hsk z1 z2 z3 z4
      go_enter Tryd.func10, Tryd.ntmps10
      go_wp2_with (first | (go_at_call 53; ((with_reducible refine (isDayTimeT_any _ _).mono ?_); rintro e w' ⟨rfl, rfl⟩)) | (go_at_call 54; ((with_reducible refine (within_any _ _ _ _).mono ?_); rintro e w' ⟨rfl, rfl⟩)))
      go_region_held3 (fun w' => w'.cell? ⟨w.heap.size, 0, none⟩ = some (.int .i64 t)) (first | assumption | simp [*, go_sem]) (first | (go_at_call 55; ((with_reducible refine (twoDigits_any _ _ (by omega) (by omega)).mono ?_); rintro e w' ⟨rfl, rfl⟩)))
      go_wp2_with ((go_at_call 56; ((with_reducible refine (itoa_any _ _ hs0 (by omega) (hT.below (by repeat (first | exact Below.refl _ _ | assumption | refine bExt ?_ _ | refine bAlloc ?_ _ | refine bDrewN ?_ _ | refine bDrew ?_ | refine bSet ?_ (by first | exact Nat.le_refl _ | omega | (simp; done) | (simp; omega)) _)))).mono ?_); rintro e w' ⟨rfl, x, rfl⟩)))
      go_ret2
      exact RetSB.mk_ (by rw [HV.out]) rfl (by repeat (first | exact Below.refl _ _ | assumption | refine bExt ?_ _ | refine bAlloc ?_ _ | refine bDrewN ?_ _ | refine bDrew ?_ | refine bSet ?_ (by first | exact Nat.le_refl _ | omega | (simp; done) | (simp; omega)) _))
    · have hs : 0 < s := by omega
      have hsn : ¬ s = 0 := by omega
      have HV : Hid (cueT t 3 s = twoD (t / 3600) ++ ⟨#[58]⟩ ++ twoD (t / 60 % 60) ++ ⟨#[58]⟩ ++ twoD (t % 60) ++ ⟨#[32]⟩ ++ ⟨#[101, 110, 100]⟩ ++ (⟨#[32]⟩ ++ numS s)) := Lib.hid (by rw [cueT, if_pos hc, if_pos hs]; rfl)
      have i2 : inB 3 1 4 = true := rfl
      have m0 : Sml (twoD (t / 3600)) := by unfold Sml; (try simp only [ByteArray.size_append]); have h58 : ByteArray.size ⟨#[58]⟩ = 1 := rfl; have h32 : ByteArray.size ⟨#[32]⟩ = 1 := rfl; have hw : ByteArray.size ⟨#[101, 110, 100]⟩ = 3 := rfl; omega
      have m1 : Sml (twoD (t / 3600) ++ ⟨#[58]⟩) := by unfold Sml; (try simp only [ByteArray.size_append]); have h58 : ByteArray.size ⟨#[58]⟩ = 1 := rfl; have h32 : ByteArray.size ⟨#[32]⟩ = 1 := rfl; have hw : ByteArray.size ⟨#[101, 110, 100]⟩ = 3 := rfl; omega
      have m2 : Sml (twoD (t / 3600) ++ ⟨#[58]⟩ ++ twoD (t / 60 % 60)) := by unfold Sml; (try simp only [ByteArray.size_append]); have h58 : ByteArray.size ⟨#[58]⟩ = 1 := rfl; have h32 : ByteArray.size ⟨#[32]⟩ = 1 := rfl; have hw : ByteArray.size ⟨#[101, 110, 100]⟩ = 3 := rfl; omega
      have m3 : Sml (twoD (t / 3600) ++ ⟨#[58]⟩ ++ twoD (t / 60 % 60) ++ ⟨#[58]⟩) := by unfold Sml; (try simp only [ByteArray.size_append]); have h58 : ByteArray.size ⟨#[58]⟩ = 1 := rfl; have h32 : ByteArray.size ⟨#[32]⟩ = 1 := rfl; have hw : ByteArray.size ⟨#[101, 110, 100]⟩ = 3 := rfl; omega
      have m4 : Sml (twoD (t / 3600) ++ ⟨#[58]⟩ ++ twoD (t / 60 % 60) ++ ⟨#[58]⟩ ++ twoD (t % 60)) := by unfold Sml; (try simp only [ByteArray.size_append]); have h58 : ByteArray.size ⟨#[58]⟩ = 1 := rfl; have h32 : ByteArray.size ⟨#[32]⟩ = 1 := rfl; have hw : ByteArray.size ⟨#[101, 110, 100]⟩ = 3 := rfl; omega
      have m5 : Sml (twoD (t / 3600) ++ ⟨#[58]⟩ ++ twoD (t / 60 % 60) ++ ⟨#[58]⟩ ++ twoD (t % 60) ++ ⟨#[32]⟩) := by unfold Sml; (try simp only [ByteArray.size_append]); have h58 : ByteArray.size ⟨#[58]⟩ = 1 := rfl; have h32 : ByteArray.size ⟨#[32]⟩ = 1 := rfl; have hw : ByteArray.size ⟨#[101, 110, 100]⟩ = 3 := rfl; omega
      have m6 : Sml (twoD (t / 3600) ++ ⟨#[58]⟩ ++ twoD (t / 60 % 60) ++ ⟨#[58]⟩ ++ twoD (t % 60) ++ ⟨#[32]⟩ ++ ⟨#[101, 110, 100]⟩) := by unfold Sml; (try simp only [ByteArray.size_append]); have h58 : ByteArray.size ⟨#[58]⟩ = 1 := rfl; have h32 : ByteArray.size ⟨#[32]⟩ = 1 := rfl; have hw : ByteArray.size ⟨#[101, 110, 100]⟩ = 3 := rfl; omega
      have m7 : Sml (twoD (t / 60 % 60)) := by unfold Sml; (try simp only [ByteArray.size_append]); have h58 : ByteArray.size ⟨#[58]⟩ = 1 := rfl; have h32 : ByteArray.size ⟨#[32]⟩ = 1 := rfl; have hw : ByteArray.size ⟨#[101, 110, 100]⟩ = 3 := rfl; omega
      have m8 : Sml (twoD (t % 60)) := by unfold Sml; (try simp only [ByteArray.size_append]); have h58 : ByteArray.size ⟨#[58]⟩ = 1 := rfl; have h32 : ByteArray.size ⟨#[32]⟩ = 1 := rfl; have hw : ByteArray.size ⟨#[101, 110, 100]⟩ = 3 := rfl; omega
      have m9 : Sml ((⟨#[58]⟩ : ByteArray)) := by unfold Sml; (try simp only [ByteArray.size_append]); have h58 : ByteArray.size ⟨#[58]⟩ = 1 := rfl; have h32 : ByteArray.size ⟨#[32]⟩ = 1 := rfl; have hw : ByteArray.size ⟨#[101, 110, 100]⟩ = 3 := rfl; omega
      have m10 : Sml ((⟨#[32]⟩ : ByteArray)) := by unfold Sml; (try simp only [ByteArray.size_append]); have h58 : ByteArray.size ⟨#[58]⟩ = 1 := rfl; have h32 : ByteArray.size ⟨#[32]⟩ = 1 := rfl; have hw : ByteArray.size ⟨#[101, 110, 100]⟩ = 3 := rfl; omega
      have m11 : Sml ((⟨#[101, 110, 100]⟩ : ByteArray)) := by unfold Sml; (try simp only [ByteArray.size_append]); have h58 : ByteArray.size ⟨#[58]⟩ = 1 := rfl; have h32 : ByteArray.size ⟨#[32]⟩ = 1 := rfl; have hw : ByteArray.size ⟨#[101, 110, 100]⟩ = 3 := rfl; omega
      have m12 : Sml (numS s) := by unfold Sml; (try simp only [ByteArray.size_append]); have h58 : ByteArray.size ⟨#[58]⟩ = 1 := rfl; have h32 : ByteArray.size ⟨#[32]⟩ = 1 := rfl; have hw : ByteArray.size ⟨#[101, 110, 100]⟩ = 3 := rfl; omega
      have m13 : Sml ((⟨#[32]⟩ : ByteArray) ++ numS s) := by unfold Sml; (try simp only [ByteArray.size_append]); have h58 : ByteArray.size ⟨#[58]⟩ = 1 := rfl; have h32 : ByteArray.size ⟨#[32]⟩ = 1 := rfl; have hw : ByteArray.size ⟨#[101, 110, 100]⟩ = 3 := rfl; omega
      have x0 : ∀ w : World, (Instr.index 83 (.agg #[.string ⟨#[]⟩, .string ⟨#[119, 97, 114, 109, 45, 117, 112]⟩, .string ⟨#[115, 116, 97, 114, 116]⟩, .string ⟨#[101, 110, 100]⟩, .string ⟨#[115, 99, 111, 114, 101]⟩]) (.int .i64 3)).run Tryd.prog w = .ok (.string ⟨#[101, 110, 100]⟩) w := fun _ => by kernel_rfl
      clear hc hsk z1 z2 z3 z4
      go_enter Tryd.func10, Tryd.ntmps10
      go_wp2_with (first | (go_at_call 53; ((with_reducible refine (isDayTimeT_any _ _).mono ?_); rintro e w' ⟨rfl, rfl⟩)) | (go_at_call 54; ((with_reducible refine (within_any _ _ _ _).mono ?_); rintro e w' ⟨rfl, rfl⟩)))
      go_region_held3 (fun w' => w'.cell? ⟨w.heap.size, 0, none⟩ = some (.int .i64 t)) (first | assumption | simp [*, go_sem]) (first | (go_at_call 55; ((with_reducible refine (twoDigits_any _ _ (by omega) (by omega)).mono ?_); rintro e w' ⟨rfl, rfl⟩)))
      go_wp2_with ((go_at_call 56; ((with_reducible refine (itoa_any _ _ hs0 (by omega) (hT.below (by repeat (first | exact Below.refl _ _ | assumption | refine bExt ?_ _ | refine bAlloc ?_ _ | refine bDrewN ?_ _ | refine bDrew ?_ | refine bSet ?_ (by first | exact Nat.le_refl _ | omega | (simp; done) | (simp; omega)) _)))).mono ?_); rintro e w' ⟨rfl, x, rfl⟩)))
      go_ret2
      exact RetSB.mk_ (by rw [HV.out]) rfl (by repeat (first | exact Below.refl _ _ | assumption | refine bExt ?_ _ | refine bAlloc ?_ _ | refine bDrewN ?_ _ | refine bDrew ?_ | refine bSet ?_ (by first | exact Nat.le_refl _ | omega | (simp; done) | (simp; omega)) _))
    · have hs : 0 < s := by omega
      have hsn : ¬ s = 0 := by omega
      have HV : Hid (cueT t 4 s = twoD (t / 3600) ++ ⟨#[58]⟩ ++ twoD (t / 60 % 60) ++ ⟨#[58]⟩ ++ twoD (t % 60) ++ ⟨#[32]⟩ ++ ⟨#[115, 99, 111, 114, 101]⟩ ++ (⟨#[32]⟩ ++ numS s)) := Lib.hid (by rw [cueT, if_pos hc, if_pos hs]; rfl)
      have i2 : inB 4 1 4 = true := rfl
      have m0 : Sml (twoD (t / 3600)) := by unfold Sml; (try simp only [ByteArray.size_append]); have h58 : ByteArray.size ⟨#[58]⟩ = 1 := rfl; have h32 : ByteArray.size ⟨#[32]⟩ = 1 := rfl; have hw : ByteArray.size ⟨#[115, 99, 111, 114, 101]⟩ = 5 := rfl; omega
      have m1 : Sml (twoD (t / 3600) ++ ⟨#[58]⟩) := by unfold Sml; (try simp only [ByteArray.size_append]); have h58 : ByteArray.size ⟨#[58]⟩ = 1 := rfl; have h32 : ByteArray.size ⟨#[32]⟩ = 1 := rfl; have hw : ByteArray.size ⟨#[115, 99, 111, 114, 101]⟩ = 5 := rfl; omega
      have m2 : Sml (twoD (t / 3600) ++ ⟨#[58]⟩ ++ twoD (t / 60 % 60)) := by unfold Sml; (try simp only [ByteArray.size_append]); have h58 : ByteArray.size ⟨#[58]⟩ = 1 := rfl; have h32 : ByteArray.size ⟨#[32]⟩ = 1 := rfl; have hw : ByteArray.size ⟨#[115, 99, 111, 114, 101]⟩ = 5 := rfl; omega
      have m3 : Sml (twoD (t / 3600) ++ ⟨#[58]⟩ ++ twoD (t / 60 % 60) ++ ⟨#[58]⟩) := by unfold Sml; (try simp only [ByteArray.size_append]); have h58 : ByteArray.size ⟨#[58]⟩ = 1 := rfl; have h32 : ByteArray.size ⟨#[32]⟩ = 1 := rfl; have hw : ByteArray.size ⟨#[115, 99, 111, 114, 101]⟩ = 5 := rfl; omega
      have m4 : Sml (twoD (t / 3600) ++ ⟨#[58]⟩ ++ twoD (t / 60 % 60) ++ ⟨#[58]⟩ ++ twoD (t % 60)) := by unfold Sml; (try simp only [ByteArray.size_append]); have h58 : ByteArray.size ⟨#[58]⟩ = 1 := rfl; have h32 : ByteArray.size ⟨#[32]⟩ = 1 := rfl; have hw : ByteArray.size ⟨#[115, 99, 111, 114, 101]⟩ = 5 := rfl; omega
      have m5 : Sml (twoD (t / 3600) ++ ⟨#[58]⟩ ++ twoD (t / 60 % 60) ++ ⟨#[58]⟩ ++ twoD (t % 60) ++ ⟨#[32]⟩) := by unfold Sml; (try simp only [ByteArray.size_append]); have h58 : ByteArray.size ⟨#[58]⟩ = 1 := rfl; have h32 : ByteArray.size ⟨#[32]⟩ = 1 := rfl; have hw : ByteArray.size ⟨#[115, 99, 111, 114, 101]⟩ = 5 := rfl; omega
      have m6 : Sml (twoD (t / 3600) ++ ⟨#[58]⟩ ++ twoD (t / 60 % 60) ++ ⟨#[58]⟩ ++ twoD (t % 60) ++ ⟨#[32]⟩ ++ ⟨#[115, 99, 111, 114, 101]⟩) := by unfold Sml; (try simp only [ByteArray.size_append]); have h58 : ByteArray.size ⟨#[58]⟩ = 1 := rfl; have h32 : ByteArray.size ⟨#[32]⟩ = 1 := rfl; have hw : ByteArray.size ⟨#[115, 99, 111, 114, 101]⟩ = 5 := rfl; omega
      have m7 : Sml (twoD (t / 60 % 60)) := by unfold Sml; (try simp only [ByteArray.size_append]); have h58 : ByteArray.size ⟨#[58]⟩ = 1 := rfl; have h32 : ByteArray.size ⟨#[32]⟩ = 1 := rfl; have hw : ByteArray.size ⟨#[115, 99, 111, 114, 101]⟩ = 5 := rfl; omega
      have m8 : Sml (twoD (t % 60)) := by unfold Sml; (try simp only [ByteArray.size_append]); have h58 : ByteArray.size ⟨#[58]⟩ = 1 := rfl; have h32 : ByteArray.size ⟨#[32]⟩ = 1 := rfl; have hw : ByteArray.size ⟨#[115, 99, 111, 114, 101]⟩ = 5 := rfl; omega
      have m9 : Sml ((⟨#[58]⟩ : ByteArray)) := by unfold Sml; (try simp only [ByteArray.size_append]); have h58 : ByteArray.size ⟨#[58]⟩ = 1 := rfl; have h32 : ByteArray.size ⟨#[32]⟩ = 1 := rfl; have hw : ByteArray.size ⟨#[115, 99, 111, 114, 101]⟩ = 5 := rfl; omega
      have m10 : Sml ((⟨#[32]⟩ : ByteArray)) := by unfold Sml; (try simp only [ByteArray.size_append]); have h58 : ByteArray.size ⟨#[58]⟩ = 1 := rfl; have h32 : ByteArray.size ⟨#[32]⟩ = 1 := rfl; have hw : ByteArray.size ⟨#[115, 99, 111, 114, 101]⟩ = 5 := rfl; omega
      have m11 : Sml ((⟨#[115, 99, 111, 114, 101]⟩ : ByteArray)) := by unfold Sml; (try simp only [ByteArray.size_append]); have h58 : ByteArray.size ⟨#[58]⟩ = 1 := rfl; have h32 : ByteArray.size ⟨#[32]⟩ = 1 := rfl; have hw : ByteArray.size ⟨#[115, 99, 111, 114, 101]⟩ = 5 := rfl; omega
      have m12 : Sml (numS s) := by unfold Sml; (try simp only [ByteArray.size_append]); have h58 : ByteArray.size ⟨#[58]⟩ = 1 := rfl; have h32 : ByteArray.size ⟨#[32]⟩ = 1 := rfl; have hw : ByteArray.size ⟨#[115, 99, 111, 114, 101]⟩ = 5 := rfl; omega
      have m13 : Sml ((⟨#[32]⟩ : ByteArray) ++ numS s) := by unfold Sml; (try simp only [ByteArray.size_append]); have h58 : ByteArray.size ⟨#[58]⟩ = 1 := rfl; have h32 : ByteArray.size ⟨#[32]⟩ = 1 := rfl; have hw : ByteArray.size ⟨#[115, 99, 111, 114, 101]⟩ = 5 := rfl; omega
      have x0 : ∀ w : World, (Instr.index 83 (.agg #[.string ⟨#[]⟩, .string ⟨#[119, 97, 114, 109, 45, 117, 112]⟩, .string ⟨#[115, 116, 97, 114, 116]⟩, .string ⟨#[101, 110, 100]⟩, .string ⟨#[115, 99, 111, 114, 101]⟩]) (.int .i64 4)).run Tryd.prog w = .ok (.string ⟨#[115, 99, 111, 114, 101]⟩) w := fun _ => by kernel_rfl
      clear hc hsk z1 z2 z3 z4
      go_enter Tryd.func10, Tryd.ntmps10
      go_wp2_with (first | (go_at_call 53; ((with_reducible refine (isDayTimeT_any _ _).mono ?_); rintro e w' ⟨rfl, rfl⟩)) | (go_at_call 54; ((with_reducible refine (within_any _ _ _ _).mono ?_); rintro e w' ⟨rfl, rfl⟩)))
      go_region_held3 (fun w' => w'.cell? ⟨w.heap.size, 0, none⟩ = some (.int .i64 t)) (first | assumption | simp [*, go_sem]) (first | (go_at_call 55; ((with_reducible refine (twoDigits_any _ _ (by omega) (by omega)).mono ?_); rintro e w' ⟨rfl, rfl⟩)))
      go_wp2_with ((go_at_call 56; ((with_reducible refine (itoa_any _ _ hs0 (by omega) (hT.below (by repeat (first | exact Below.refl _ _ | assumption | refine bExt ?_ _ | refine bAlloc ?_ _ | refine bDrewN ?_ _ | refine bDrew ?_ | refine bSet ?_ (by first | exact Nat.le_refl _ | omega | (simp; done) | (simp; omega)) _)))).mono ?_); rintro e w' ⟨rfl, x, rfl⟩)))
      go_ret2
      exact RetSB.mk_ (by rw [HV.out]) rfl (by repeat (first | exact Below.refl _ _ | assumption | refine bExt ?_ _ | refine bAlloc ?_ _ | refine bDrewN ?_ _ | refine bDrew ?_ | refine bSet ?_ (by first | exact Nat.le_refl _ | omega | (simp; done) | (simp; omega)) _))
end Go.Proofs.YtogglhgagblihaaDoor
