/- Contracts of OutsideOf, in the program and in the reference. Conditions: lengths below 2^40. -/
import Derived.Test.YtpjaiihkgeabiaaJudge
import Derived.Test.YtpjaiihkgeabiaaRanges
set_option linter.unusedVariables false
set_option linter.unusedSimpArgs false
set_option maxRecDepth 100000
namespace Go.Proofs.Ytpjaiihkgeabiaa
open Go.ChangeShapes Go.WideShapes Go.ChangeAt Go.RowKit
/-- The indices below n that are chosen, as ints. -/
def pickN (p : Nat → Bool) (n : Nat) : List Int := ((List.range n).filter p).map Int.ofNat
theorem pickN_yes {p : Nat → Bool} {k : Nat} (h : p k = true) : pickN p (k + 1) = pickN p k ++ [(k : Int)] := by simp [pickN, List.range_succ, h]
theorem pickN_no {p : Nat → Bool} {k : Nat} (h : p k = false) : pickN p (k + 1) = pickN p k := by simp [pickN, List.range_succ, h]
theorem pickN_len (p : Nat → Bool) (n : Nat) : (pickN p n).length ≤ n := by
  unfold pickN
  rw [List.length_map]
  exact Nat.le_trans (List.length_filter_le _ _) (by simp)
def outP (l : List Int) (lim : Int) (j : Nat) : Bool := decide (l.length * lim < absM (devI l j))
def outOk (gg kk : List (List Int)) (i lim : Int) : Bool := marksB gg kk && inB i 0 (gg.length - 1) && inB lim 0 10
def outV (gg kk : List (List Int)) (i lim : Int) : List Int := if outOk gg kk i lim then pickN (outP (rowOf gg i.toNat) lim) (rowOf gg i.toNat).length else []
theorem outOk_of {gg kk : List (List Int)} {i lim : Int} (h : outOk gg kk i lim = true) : marksB gg kk = true ∧ (0 ≤ i ∧ i < gg.length) ∧ (0 ≤ lim ∧ lim ≤ 10) := by
  simp only [outOk, Bool.and_eq_true] at h
  have h1 := inB_iff.1 h.1.2
  have h2 := inB_iff.1 h.2
  exact ⟨h.1.1, by omega, by omega⟩
theorem outV_len (gg kk : List (List Int)) (i lim : Int) : (outV gg kk i lim).length ≤ 9 := by
  unfold outV
  cases h : outOk gg kk i lim
  · simp
  · obtain ⟨h1, h2, _⟩ := outOk_of h
    obtain ⟨_, _, h5, h6⟩ := marksB_of h1
    have := (h6 i.toNat (by omega)).1
    simp only [if_true]
    refine Nat.le_trans (pickN_len _ _) ?_
    unfold rowOf; omega
set_option maxHeartbeats 2000000 in
theorem specOutsideOf_any (w : World) (A B : Option Addr) (n m c d : Nat) (gg kk : List (List Int)) (hm : RdMk w A n B m gg kk) (i lim : Int) :
    Calls Try.prog 18 #[.agg #[.slice A n c, .slice B m d], .int .i64 i, .int .i64 lim] w (RetIB w (outV gg kk i lim) (outOk gg kk i lim)) := by
  have Hl := Lib.hid hm.1.len
  have hn40 := hm.2.2.1
  cases hk : outOk gg kk i lim
  · have hv : outV gg kk i lim = [] := by simp [outV, hk]
    rw [hv]
    unfold outOk at hk
    rw [Hl.out] at hk
    clear hv
    cases h1 : marksB gg kk
    · go_enter Try.func18, Try.ntmps18
      go_wp2_with (first | (go_at_call 35; ((with_reducible refine (mkAll_any _ _ _ _ _ _ _ _ _ (hm.below (by repeat (first | exact Below.refl _ _ | assumption | refine bExt ?_ _ | refine bAlloc ?_ _ | refine bDrewN ?_ _ | refine bDrew ?_ | refine bSet ?_ (by first | exact Nat.le_refl _ | omega | (simp; done) | (simp; omega)) _)))).mono ?_); rintro e w' ⟨rfl, x0, rfl⟩)) | (go_at_call 45; ((with_reducible refine (l1In_any _ _ _ _).mono ?_); rintro e w' ⟨rfl, rfl⟩)))
      go_ret2
      exact RetIB.mk_ OwI.nil_ (Nat.le_refl _) (by repeat (first | exact Below.refl _ _ | assumption | refine bExt ?_ _ | refine bAlloc ?_ _ | refine bDrewN ?_ _ | refine bDrew ?_ | refine bSet ?_ (by first | exact Nat.le_refl _ | omega | (simp; done) | (simp; omega)) _))
    rw [h1] at hk
    cases h2 : inB i 0 ((n : Int) - 1)
    · go_enter Try.func18, Try.ntmps18
      go_wp2_with (first | (go_at_call 35; ((with_reducible refine (mkAll_any _ _ _ _ _ _ _ _ _ (hm.below (by repeat (first | exact Below.refl _ _ | assumption | refine bExt ?_ _ | refine bAlloc ?_ _ | refine bDrewN ?_ _ | refine bDrew ?_ | refine bSet ?_ (by first | exact Nat.le_refl _ | omega | (simp; done) | (simp; omega)) _)))).mono ?_); rintro e w' ⟨rfl, x0, rfl⟩)) | (go_at_call 45; ((with_reducible refine (l1In_any _ _ _ _).mono ?_); rintro e w' ⟨rfl, rfl⟩)))
      go_ret2
      exact RetIB.mk_ OwI.nil_ (Nat.le_refl _) (by repeat (first | exact Below.refl _ _ | assumption | refine bExt ?_ _ | refine bAlloc ?_ _ | refine bDrewN ?_ _ | refine bDrew ?_ | refine bSet ?_ (by first | exact Nat.le_refl _ | omega | (simp; done) | (simp; omega)) _))
    rw [h2] at hk
    have h3 : inB lim 0 10 = false := by simpa using hk
    clear hk
    go_enter Try.func18, Try.ntmps18
    go_wp2_with (first | (go_at_call 35; ((with_reducible refine (mkAll_any _ _ _ _ _ _ _ _ _ (hm.below (by repeat (first | exact Below.refl _ _ | assumption | refine bExt ?_ _ | refine bAlloc ?_ _ | refine bDrewN ?_ _ | refine bDrew ?_ | refine bSet ?_ (by first | exact Nat.le_refl _ | omega | (simp; done) | (simp; omega)) _)))).mono ?_); rintro e w' ⟨rfl, x0, rfl⟩)) | (go_at_call 45; ((with_reducible refine (l1In_any _ _ _ _).mono ?_); rintro e w' ⟨rfl, rfl⟩)))
    go_ret2
    exact RetIB.mk_ OwI.nil_ (Nat.le_refl _) (by repeat (first | exact Below.refl _ _ | assumption | refine bExt ?_ _ | refine bAlloc ?_ _ | refine bDrewN ?_ _ | refine bDrew ?_ | refine bSet ?_ (by first | exact Nat.le_refl _ | omega | (simp; done) | (simp; omega)) _))
  · have hv : outV gg kk i lim = pickN (outP (rowOf gg i.toNat) lim) (rowOf gg i.toNat).length := by simp [outV, hk]
    rw [hv]
    clear hv
    have hk0 := hk
    simp only [outOk, Bool.and_eq_true] at hk0
    obtain ⟨⟨h1, h2⟩, h3⟩ := hk0
    obtain ⟨_, ⟨hi0, hil⟩, ⟨hl0, hl1⟩⟩ := outOk_of hk
    rw [Hl.out] at h2 hil
    obtain ⟨i, rfl⟩ : ∃ i' : Nat, i = i' := ⟨i.toNat, by omega⟩
    have hin : i < n := by omega
    rw [show ((i : Int)).toNat = i from rfl]
    obtain ⟨b0, off, B1, m1, d1, rfl, hb0, hc0, hr, ⟨hm3, hm9⟩, hbd, hrl⟩ := row_of hm h1 i hin
    rw [show rowOf gg i = gg[i]?.getD [] from rfl]
    generalize gg[i]?.getD [] = lk at *
    rw [hrl]
    have hrb := hr
    clear hk
    have hb01 : b0 < w.heap.size + 1 := by omega
    have hb02 : b0 < w.heap.size + 1 + 1 := by omega
    have m2 := mul_bd (a := lim) (b := m1) (A := 10) (B := 9) (by omega) hl1 (by omega) (by omega)
    have m3 : (m1 : Int) * lim = lim * m1 := Int.mul_comm _ _
    go_enter Try.func18, Try.ntmps18
    go_wp2_with (first | (go_at_call 35; ((with_reducible refine (mkAll_any _ _ _ _ _ _ _ _ _ (hm.below (by repeat (first | exact Below.refl _ _ | assumption | refine bExt ?_ _ | refine bAlloc ?_ _ | refine bDrewN ?_ _ | refine bDrew ?_ | refine bSet ?_ (by first | exact Nat.le_refl _ | omega | (simp; done) | (simp; omega)) _)))).mono ?_); rintro e w' ⟨rfl, x0, rfl⟩)) | (go_at_call 45; ((with_reducible refine (l1In_any _ _ _ _).mono ?_); rintro e w' ⟨rfl, rfl⟩)))
    go_loopw [8, 35] (fun v i wr => ∃ (k : Nat) (D : Option Addr) (z q : Nat) (x : World), k ≤ m1 ∧ z ≤ k ∧ i = .int .i64 k ∧ v = .slice D z q ∧ wr = ext (w.alloc (.cells #[.slice (some ⟨b0, off, none⟩) n c, .slice B m d] 25)) x ∧ OwI (w.alloc (.cells #[.slice (some ⟨b0, off, none⟩) n c, .slice B m d] 25)).heap.size (ext (w.alloc (.cells #[.slice (some ⟨b0, off, none⟩) n c, .slice B m d] 25)) x) D z q (pickN (outP lk lim) k)) (fun _ i _ => m1 - (intOf i).toNat)
    case atStart => exact ⟨0, none, 0, 0, x0, by omega, by omega, rfl, rfl, rfl, OwI.nil_⟩
    case round =>
      obtain ⟨k, D, z, q, x, hkn, hzk, rfl, rfl, rfl, ho⟩ := hrel
      by_cases hlt : k < m1
      · have hdv := devI_bd (l := lk) (a := k) hbd (by omega) (by rw [hrl]; omega) (by rw [hrl]; omega)
        have hab : -90 ≤ absI (devI lk k) ∧ absI (devI lk k) ≤ 90 := by unfold absI; omega
        have hzb : z ≤ 1099511627776 := by omega
        have HP := Lib.hid (show outP lk lim k = decide (lim * m1 < absI (devI lk k)) by unfold outP; rw [hrl, Int.mul_comm]; rfl)
        by_cases ht : lim * m1 < absI (devI lk k)
        · have HN := Lib.hid (pickN_yes (p := outP lk lim) (k := k) (by rw [HP.out]; simpa using ht))
          go_wp2_with (first | (go_at_call 30; ((with_reducible refine (jdItem_any _ _ _ _ _ _ (hr.below (by repeat (first | exact Below.refl _ _ | assumption | refine bExt ?_ _ | refine bAlloc ?_ _ | refine bDrewN ?_ _ | refine bDrew ?_ | refine bSet ?_ (by first | exact Nat.le_refl _ | omega | (simp; done) | (simp; omega)) _))) hm9 hlt hbd).mono ?_); rintro e w' ⟨rfl, rfl⟩)) | (go_at_call 31; ((with_reducible refine (l1Abs_any _ _ (by omega) (by omega)).mono ?_); rintro e w' ⟨rfl, rfl⟩)) | (at_builtin; (refine wpl_push_int (w.alloc (.cells #[.slice (some ⟨b0, off, none⟩) n c, .slice B m d] 25)) _ _ _ ?_ rfl _ _ rfl D z q _ rfl ho ?_ ?_ rfl hzb ?_); (focus (first | rfl | (simp; done))); (focus (repeat (first | exact Below.refl _ _ | assumption | refine bExt ?_ _ | refine bAlloc ?_ _ | refine bDrewN ?_ _ | refine bDrew ?_ | refine bSet ?_ (by first | exact Nat.le_refl _ | omega | (simp; done) | (simp; omega)) _))); (focus (repeat (first | exact Below.refl _ _ | assumption | refine bExt ?_ _ | refine bAlloc ?_ _ | refine bDrewN ?_ _ | refine bDrew ?_ | refine bSet ?_ (by first | exact Nat.le_refl _ | omega | (simp; done) | (simp; omega)) _))); intro A2 c2 y2 o2 hg2 hd2))
          go_roundw
          case rel => exact ⟨k + 1, A2, z + 1, c2, y2, by omega, by omega, by go_num, rfl, rfl, by rw [HN.out]; exact o2⟩
          case measure => simp [intOf]; omega
        · have HN := Lib.hid (pickN_no (p := outP lk lim) (k := k) (by rw [HP.out]; simpa using ht))
          go_wp2_with (first | (go_at_call 30; ((with_reducible refine (jdItem_any _ _ _ _ _ _ (hr.below (by repeat (first | exact Below.refl _ _ | assumption | refine bExt ?_ _ | refine bAlloc ?_ _ | refine bDrewN ?_ _ | refine bDrew ?_ | refine bSet ?_ (by first | exact Nat.le_refl _ | omega | (simp; done) | (simp; omega)) _))) hm9 hlt hbd).mono ?_); rintro e w' ⟨rfl, rfl⟩)) | (go_at_call 31; ((with_reducible refine (l1Abs_any _ _ (by omega) (by omega)).mono ?_); rintro e w' ⟨rfl, rfl⟩)))
          go_roundw
          case rel => exact ⟨k + 1, D, z, q, x, by omega, by omega, by go_num, rfl, rfl, by rw [HN.out]; exact ho⟩
          case measure => simp [intOf]; omega
      · have hkn := Lib.hid (show k = m1 by omega)
        rw [hkn.out] at ho
        go_wp2
        go_ret2
        exact RetIB.mk_ ho (base_le (by repeat (first | exact Below.refl _ _ | assumption | refine bExt ?_ _ | refine bAlloc ?_ _ | refine bDrewN ?_ _ | refine bDrew ?_ | refine bSet ?_ (by first | exact Nat.le_refl _ | omega | (simp; done) | (simp; omega)) _))) (by repeat (first | exact Below.refl _ _ | assumption | refine bExt ?_ _ | refine bAlloc ?_ _ | refine bDrewN ?_ _ | refine bDrew ?_ | refine bSet ?_ (by first | exact Nat.le_refl _ | omega | (simp; done) | (simp; omega)) _))
set_option maxHeartbeats 1000000 in
theorem outsideF_any (w : World) (g1 g2 : Nat) (B : Option Addr) (m d : Nat) (l : List Int) (lim : Int) (k : Nat) (hr : RdI w B m l) (hm9 : m ≤ 9) (hk : k < m) (hbd : ∀ x ∈ l, -5 ≤ x ∧ x ≤ 5) (hl0 : 0 ≤ lim) (hl1 : lim ≤ 10)
    (hc1 : w.cell? ⟨g1, 0, none⟩ = some (.slice B m d)) (hc2 : w.cell? ⟨g2, 0, none⟩ = some (.int .i64 lim)) (hz1 : g1 < w.heap.size) (hz2 : g2 < w.heap.size) :
    Calls Try.prog 44 #[.int .i64 k, .pointer (some ⟨g1, 0, none⟩), .pointer (some ⟨g2, 0, none⟩)] w fun e w' => e = .returned (.bool (outP l lim k)) ∧ ∃ x, w' = ext w x := by
  have hrl := hr.len
  have hdv := devI_bd (l := l) (a := k) hbd (by omega) (by rw [hrl]; omega) (by rw [hrl]; omega)
  have m2 := mul_bd (a := lim) (b := m) (A := 10) (B := 9) (by omega) hl1 (by omega) (by omega)
  have m3 : (m : Int) * lim = lim * m := Int.mul_comm _ _
  have HP := Lib.hid (show outP l lim k = decide ((m : Int) * lim < max (devI l k) (-(devI l k))) by unfold outP absM; rw [hrl])
  have hw1 : IntKind.i64.wrap ((m : Int) * lim) = (m : Int) * lim := IntWalk.i64_in _ (by omega)
  clear hrl m3
  go_enter Try.func44, Try.ntmps44
  go_wp2
  go_region_held3 (fun w' => w'.cell? ⟨g1, 0, none⟩ = some (.slice B m d) ∧ w'.cell? ⟨g2, 0, none⟩ = some (.int .i64 lim)) (first | (refine ⟨?_, ?_⟩ <;> simp [go_sem, hz1, hz2, hc1, hc2]; done))
    (first
      | (go_at_call 27; ((with_reducible refine (deviationOf_any _ _ _ _ _ _ (hr.below (by repeat (first | exact Below.refl _ _ | assumption | refine bExt ?_ _ | refine bAlloc ?_ _ | refine bDrewN ?_ _ | refine bDrew ?_ | refine bSet ?_ (by first | exact Nat.le_refl _ | omega | (simp; done) | (simp; omega)) _))) hm9 hk hbd).mono ?_); rintro e w' ⟨rfl, y, rfl⟩))
      | (go_at_call 28; ((with_reducible refine (absOf_any _ _ (by omega) (by omega)).mono ?_); rintro e w' ⟨rfl, rfl⟩)))
  all_goals
    go_wp2
    go_ret
    exact ⟨ret_bool HP.out.symm, ext_ex (by repeat (first | exact Below.refl _ _ | assumption | refine bExt ?_ _ | refine bAlloc ?_ _ | refine bDrewN ?_ _ | refine bDrew ?_ | refine bSet ?_ (by first | exact Nat.le_refl _ | omega | (simp; done) | (simp; omega)) _))⟩
set_option maxHeartbeats 1000000 in
theorem indicesOut_any (w : World) (g1 g2 : Nat) (B : Option Addr) (m d : Nat) (l : List Int) (lim : Int) (hr : RdI w B m l) (hm9 : m ≤ 9) (hbd : ∀ x ∈ l, -5 ≤ x ∧ x ≤ 5) (hl0 : 0 ≤ lim) (hl1 : lim ≤ 10)
    (hc1 : w.cell? ⟨g1, 0, none⟩ = some (.slice B m d)) (hc2 : w.cell? ⟨g2, 0, none⟩ = some (.int .i64 lim)) (hz1 : g1 < w.heap.size) (hz2 : g2 < w.heap.size) :
    Calls Try.prog 43 #[.int .i64 m, .func (.func 44) #[] #[.pointer (some ⟨g1, 0, none⟩), .pointer (some ⟨g2, 0, none⟩)]] w (RetI w (pickN (outP l lim) m)) := by
  have cF := fun (x : World) (k : Nat) (hk : k < m) => outsideF_any (ext w x) g1 g2 B m d l lim k (hr.below (ext_below _ _)) hm9 hk hbd hl0 hl1 (by rw [ext_cell _ _ _ _ _ hz1]; exact hc1) (by rw [ext_cell _ _ _ _ _ hz2]; exact hc2) (Nat.lt_of_lt_of_le hz1 (ext_le _ _)) (Nat.lt_of_lt_of_le hz2 (ext_le _ _))
  clear hc1 hc2
  go_enter Try.func43, Try.ntmps43
  go_wp2
  go_loopw [5, 9] (fun v i wr => ∃ (k : Nat) (D : Option Addr) (z q : Nat) (x : World), k ≤ m ∧ z ≤ k ∧ i = .int .i64 k ∧ v = .slice D z q ∧ wr = ext w x ∧ OwI w.heap.size (ext w x) D z q (pickN (outP l lim) k)) (fun _ i _ => m - (intOf i).toNat)
  case atStart =>
    have o0 := OwI.lit_ (R := w) (w := w) (Below.refl _ _) [] (by simp [maxLen]) #[] rfl
    obtain ⟨z, hz⟩ := ext_ex (show Below w.heap.size w (w.alloc (.cells #[] 3)) from by repeat (first | exact Below.refl _ _ | assumption | refine bExt ?_ _ | refine bAlloc ?_ _ | refine bDrewN ?_ _ | refine bDrew ?_ | refine bSet ?_ (by first | exact Nat.le_refl _ | omega | (simp; done) | (simp; omega)) _))
    rw [hz] at o0
    exact ⟨0, _, 0, _, z, by omega, by omega, rfl, rfl, hz, o0⟩
  case round =>
    obtain ⟨k, D, z, q, x, hkn, hzk, rfl, rfl, rfl, ho⟩ := hrel
    by_cases hlt : k < m
    · have c1 := cF x k hlt
      have hzb : z ≤ 1099511627776 := by omega
      cases hp : outP l lim k
      · have HN := Lib.hid (pickN_no hp)
        rw [hp] at c1
        go_wp2_with (first | (go_at_call 44; ((with_reducible refine (c1).mono ?_); rintro e w' ⟨rfl, y, rfl⟩)))
        obtain ⟨y', hy'⟩ := ext_ex (show Below w.heap.size w (ext (ext w x) y) from by repeat (first | exact Below.refl _ _ | assumption | refine bExt ?_ _ | refine bAlloc ?_ _ | refine bDrewN ?_ _ | refine bDrew ?_ | refine bSet ?_ (by first | exact Nat.le_refl _ | omega | (simp; done) | (simp; omega)) _))
        have ho' := ho.below (ext_below (ext w x) y)
        go_roundw
        case rel => exact ⟨k + 1, D, z, q, y', by omega, by omega, by go_num, rfl, hy', by rw [HN.out, ← hy']; exact ho'⟩
        case measure => simp [intOf]; omega
      · have HN := Lib.hid (pickN_yes hp)
        rw [hp] at c1
        go_wp2_with (first | (go_at_call 44; ((with_reducible refine (c1).mono ?_); rintro e w' ⟨rfl, y, rfl⟩)) | (at_builtin; (refine wpl_push_int w _ _ _ ?_ rfl _ _ rfl D z q _ rfl (ho.below (ext_below _ y)) ?_ ?_ rfl hzb ?_); (focus (first | rfl | (simp; done))); (focus (repeat (first | exact Below.refl _ _ | assumption | refine bExt ?_ _ | refine bAlloc ?_ _ | refine bDrewN ?_ _ | refine bDrew ?_ | refine bSet ?_ (by first | exact Nat.le_refl _ | omega | (simp; done) | (simp; omega)) _))); (focus (repeat (first | exact Below.refl _ _ | assumption | refine bExt ?_ _ | refine bAlloc ?_ _ | refine bDrewN ?_ _ | refine bDrew ?_ | refine bSet ?_ (by first | exact Nat.le_refl _ | omega | (simp; done) | (simp; omega)) _))); intro A2 c2 y2 o2 hg2 hd2))
        go_roundw
        case rel => exact ⟨k + 1, A2, z + 1, c2, y2, by omega, by omega, by go_num, rfl, rfl, by rw [HN.out]; exact o2⟩
        case measure => simp [intOf]; omega
    · have hkn := Lib.hid (show k = m by omega)
      rw [hkn.out] at ho
      go_wp2
      go_ret
      exact RetI.mk_ ho (Nat.le_refl _) (by repeat (first | exact Below.refl _ _ | assumption | refine bExt ?_ _ | refine bAlloc ?_ _ | refine bDrewN ?_ _ | refine bDrew ?_ | refine bSet ?_ (by first | exact Nat.le_refl _ | omega | (simp; done) | (simp; omega)) _))
set_option maxHeartbeats 2000000 in
theorem implOutsideOf_any (w : World) (A B : Option Addr) (n m c d : Nat) (gg kk : List (List Int)) (hm : RdMk w A n B m gg kk) (i lim : Int) :
    Calls Try.prog 17 #[.agg #[.slice A n c, .slice B m d], .int .i64 i, .int .i64 lim] w (RetIB w (outV gg kk i lim) (outOk gg kk i lim)) := by
  have Hl := Lib.hid hm.1.len
  have hn40 := hm.2.2.1
  cases hk : outOk gg kk i lim
  · have hv : outV gg kk i lim = [] := by simp [outV, hk]
    rw [hv]
    unfold outOk at hk
    rw [Hl.out] at hk
    clear hv
    cases h1 : marksB gg kk
    · go_enter Try.func17, Try.ntmps17
      go_wp2_with (first | (go_at_call 32; ((with_reducible refine (isMarks_any _ _ _ _ _ _ _ _ _ (hm.below (by repeat (first | exact Below.refl _ _ | assumption | refine bExt ?_ _ | refine bAlloc ?_ _ | refine bDrewN ?_ _ | refine bDrew ?_ | refine bSet ?_ (by first | exact Nat.le_refl _ | omega | (simp; done) | (simp; omega)) _)))).mono ?_); rintro e w' ⟨rfl, x0, rfl⟩)) | (go_at_call 42; ((with_reducible refine (within_any _ _ _ _).mono ?_); rintro e w' ⟨rfl, rfl⟩)))
      go_ret2
      exact RetIB.mk_ OwI.nil_ (Nat.le_refl _) (by repeat (first | exact Below.refl _ _ | assumption | refine bExt ?_ _ | refine bAlloc ?_ _ | refine bDrewN ?_ _ | refine bDrew ?_ | refine bSet ?_ (by first | exact Nat.le_refl _ | omega | (simp; done) | (simp; omega)) _))
    rw [h1] at hk
    cases h2 : inB i 0 ((n : Int) - 1)
    · go_enter Try.func17, Try.ntmps17
      go_wp2_with (first | (go_at_call 32; ((with_reducible refine (isMarks_any _ _ _ _ _ _ _ _ _ (hm.below (by repeat (first | exact Below.refl _ _ | assumption | refine bExt ?_ _ | refine bAlloc ?_ _ | refine bDrewN ?_ _ | refine bDrew ?_ | refine bSet ?_ (by first | exact Nat.le_refl _ | omega | (simp; done) | (simp; omega)) _)))).mono ?_); rintro e w' ⟨rfl, x0, rfl⟩)) | (go_at_call 42; ((with_reducible refine (within_any _ _ _ _).mono ?_); rintro e w' ⟨rfl, rfl⟩)))
      go_ret2
      exact RetIB.mk_ OwI.nil_ (Nat.le_refl _) (by repeat (first | exact Below.refl _ _ | assumption | refine bExt ?_ _ | refine bAlloc ?_ _ | refine bDrewN ?_ _ | refine bDrew ?_ | refine bSet ?_ (by first | exact Nat.le_refl _ | omega | (simp; done) | (simp; omega)) _))
    rw [h2] at hk
    have h3 : inB lim 0 10 = false := by simpa using hk
    clear hk
    go_enter Try.func17, Try.ntmps17
    go_wp2_with (first | (go_at_call 32; ((with_reducible refine (isMarks_any _ _ _ _ _ _ _ _ _ (hm.below (by repeat (first | exact Below.refl _ _ | assumption | refine bExt ?_ _ | refine bAlloc ?_ _ | refine bDrewN ?_ _ | refine bDrew ?_ | refine bSet ?_ (by first | exact Nat.le_refl _ | omega | (simp; done) | (simp; omega)) _)))).mono ?_); rintro e w' ⟨rfl, x0, rfl⟩)) | (go_at_call 42; ((with_reducible refine (within_any _ _ _ _).mono ?_); rintro e w' ⟨rfl, rfl⟩)))
    go_ret2
    exact RetIB.mk_ OwI.nil_ (Nat.le_refl _) (by repeat (first | exact Below.refl _ _ | assumption | refine bExt ?_ _ | refine bAlloc ?_ _ | refine bDrewN ?_ _ | refine bDrew ?_ | refine bSet ?_ (by first | exact Nat.le_refl _ | omega | (simp; done) | (simp; omega)) _))
  · have hv : outV gg kk i lim = pickN (outP (rowOf gg i.toNat) lim) (rowOf gg i.toNat).length := by simp [outV, hk]
    rw [hv]
    clear hv
    have hk0 := hk
    simp only [outOk, Bool.and_eq_true] at hk0
    obtain ⟨⟨h1, h2⟩, h3⟩ := hk0
    obtain ⟨_, ⟨hi0, hil⟩, ⟨hl0, hl1⟩⟩ := outOk_of hk
    rw [Hl.out] at h2 hil
    obtain ⟨i, rfl⟩ : ∃ i' : Nat, i = i' := ⟨i.toNat, by omega⟩
    have hin : i < n := by omega
    rw [show ((i : Int)).toNat = i from rfl]
    obtain ⟨b0, off, B1, m1, d1, rfl, hb0, hc0, hr, ⟨hm3, hm9⟩, hbd, hrl⟩ := row_of hm h1 i hin
    rw [show rowOf gg i = gg[i]?.getD [] from rfl]
    generalize gg[i]?.getD [] = lk at *
    rw [hrl]
    have hrb := hr
    clear hk
    have hb01 : b0 < w.heap.size + 1 := by omega
    have hb02 : b0 < w.heap.size + 1 + 1 := by omega
    have m2 := mul_bd (a := lim) (b := m1) (A := 10) (B := 9) (by omega) hl1 (by omega) (by omega)
    have m3 : (m1 : Int) * lim = lim * m1 := Int.mul_comm _ _
    go_enter Try.func17, Try.ntmps17
    go_wp2_with (first | (go_at_call 32; ((with_reducible refine (isMarks_any _ _ _ _ _ _ _ _ _ (hm.below (by repeat (first | exact Below.refl _ _ | assumption | refine bExt ?_ _ | refine bAlloc ?_ _ | refine bDrewN ?_ _ | refine bDrew ?_ | refine bSet ?_ (by first | exact Nat.le_refl _ | omega | (simp; done) | (simp; omega)) _)))).mono ?_); rintro e w' ⟨rfl, x0, rfl⟩)) | (go_at_call 42; ((with_reducible refine (within_any _ _ _ _).mono ?_); rintro e w' ⟨rfl, rfl⟩)) | (go_at_call 43; (with_reducible refine (indicesOut_any _ _ _ B1 m1 d1 lk lim (hr.below (by repeat (first | exact Below.refl _ _ | assumption | refine bExt ?_ _ | refine bAlloc ?_ _ | refine bDrewN ?_ _ | refine bDrew ?_ | refine bSet ?_ (by first | exact Nat.le_refl _ | omega | (simp; done) | (simp; omega)) _))) hm9 hbd hl0 hl1 ?_ ?_ ?_ ?_).mono ?_); (focus (simp [go_sem])); (focus (simp [go_sem])); (focus (simp [go_sem])); (focus (simp [go_sem])); rintro e w' ⟨A3, n3, c3, x3, rfl, rfl, o3⟩))
    go_ret2
    exact RetIB.mk_ o3 (base_le (by repeat (first | exact Below.refl _ _ | assumption | refine bExt ?_ _ | refine bAlloc ?_ _ | refine bDrewN ?_ _ | refine bDrew ?_ | refine bSet ?_ (by first | exact Nat.le_refl _ | omega | (simp; done) | (simp; omega)) _))) (by repeat (first | exact Below.refl _ _ | assumption | refine bExt ?_ _ | refine bAlloc ?_ _ | refine bDrewN ?_ _ | refine bDrew ?_ | refine bSet ?_ (by first | exact Nat.le_refl _ | omega | (simp; done) | (simp; omega)) _))
end Go.Proofs.Ytpjaiihkgeabiaa
