/- Contracts of StillToCome, in the program and in the reference. Conditions: slices below 2^40 elements. -/
import Derived.Test.YtogglhgagblihaaZKnown
import Derived.Test.YtogglhgagblihaaZContains
set_option linter.unusedVariables false
set_option linter.unusedSimpArgs false
set_option maxRecDepth 100000
namespace Go.Proofs.Ytogglhgagblihaa
open Go.RowKit
def stL (l : List (Int × Int)) (S : List Int) (gap t : Int) (k : Nat) : List Int := ((List.range k).filter fun j => !knAt l S gap t j).map fun j => (l[j]?.getD (0, 0)).1
theorem stL_yes {l : List (Int × Int)} {S : List Int} {gap t : Int} {k : Nat} (h : knAt l S gap t k = false) : stL l S gap t (k + 1) = stL l S gap t k ++ [(l[k]?.getD (0, 0)).1] := by simp [stL, List.range_succ, h]
theorem stL_no {l : List (Int × Int)} {S : List Int} {gap t : Int} {k : Nat} (h : knAt l S gap t k = true) : stL l S gap t (k + 1) = stL l S gap t k := by simp [stL, List.range_succ, h]
theorem stL_len (l : List (Int × Int)) (S : List Int) (gap t : Int) (k : Nat) : (stL l S gap t k).length ≤ k := by
  unfold stL; rw [List.length_map]; exact Nat.le_trans (List.length_filter_le _ _) (by simp)
def stV (l : List (Int × Int)) (a b c gap t : Int) : List Int := if iceOk l a b c gap t then stL l (runS l a b c gap 0 0) gap t l.length else []
theorem stV_len (l : List (Int × Int)) (a b c gap t : Int) : (stV l a b c gap t).length ≤ 40 := by
  unfold stV
  cases h : iceOk l a b c gap t
  · simp
  · simp only [iceOk, Bool.and_eq_true] at h
    have h1 := (slotsB_of (timedB_of h.1).1).2.2
    have := stL_len l (runS l a b c gap 0 0) gap t l.length
    simp only [if_true]; omega
set_option maxHeartbeats 2000000 in
theorem specStillToCome_any (w : World) (L : Option Addr) (n cl : Nat) (l : List (Int × Int)) (a b c gap t : Int) (hl : RdS w L n l) (hn : n ≤ 1099511627776) :
    Calls Try.prog 33 #[.slice L n cl, .agg #[.int .i64 a, .int .i64 b, .int .i64 c, .int .i64 gap], .int .i64 t] w (RetIB w (stV l a b c gap t) (iceOk l a b c gap t)) := by
  have Hl := Lib.hid hl.len
  cases hk : iceOk l a b c gap t
  · have hv : stV l a b c gap t = [] := by simp [stV, hk]
    rw [hv]
    unfold iceOk at hk
    go_enter Try.func33, Try.ntmps33
    go_wp2_with (first | (go_at_call 63; ((with_reducible refine (tiGood_any _ _ _ _ _ _ _ _ _ (hl.below (bAlloc (Below.refl _ _) _)) hn).mono ?_); rintro e w' ⟨rfl, x, rfl⟩)) | (go_at_call 70; ((with_reducible refine (tiClock_any _ _).mono ?_); rintro e w' ⟨rfl, rfl⟩)))
    all_goals first | (go_ret2; exact RetIB.mk_ OwI.nil_ (Nat.le_refl _) (by repeat (first | exact Below.refl _ _ | assumption | refine bExt ?_ _ | refine bAlloc ?_ _ | refine bDrewN ?_ _ | refine bDrew ?_ | refine bSet ?_ (by first | exact Nat.le_refl _ | omega | (simp; done) | (simp; omega)) _))) | (exfalso; simp_all)
  · have hv : stV l a b c gap t = stL l (runS l a b c gap 0 0) gap t l.length := by simp [stV, hk]
    rw [hv, Hl.out]
    clear hv
    simp only [iceOk, Bool.and_eq_true] at hk
    obtain ⟨ht, htt⟩ := hk
    have hn40 := (timed_facts hl.len ht).2.2.1
    go_enter Try.func33, Try.ntmps33
    go_wp2_with (first | (go_at_call 63; ((with_reducible refine (tiGood_any _ _ _ _ _ _ _ _ _ (hl.below (bAlloc (Below.refl _ _) _)) hn).mono ?_); rintro e w' ⟨rfl, x, rfl⟩)) | (go_at_call 70; ((with_reducible refine (tiClock_any _ _).mono ?_); rintro e w' ⟨rfl, rfl⟩)) | (go_at_call 91; ((with_reducible refine (srKnown_any _ _ _ _ _ _ _ _ _ _ (hl.below (by repeat (first | exact Below.refl _ _ | assumption | refine bExt ?_ _ | refine bAlloc ?_ _ | refine bDrewN ?_ _ | refine bDrew ?_ | refine bSet ?_ (by first | exact Nat.le_refl _ | omega | (simp; done) | (simp; omega)) _))) hn ht).mono ?_); rintro e w' ⟨A1, n1, c1, x1, rfl, rfl, o1⟩)))
    obtain rfl : n1 = n := o1.len.symm.trans (by simp [knL])
    have hrK := o1.rd
    generalize runS l a b c gap 0 0 = SV at *
    go_loopw [8, 25] (fun s i wr => ∃ (k : Nat) (D : Option Addr) (z q : Nat) (y : World), k ≤ n1 ∧ z ≤ k ∧ i = .int .i64 k ∧ s = .slice D z q ∧ wr = ext (ext (ext (w.alloc (.cells #[.int .i64 a, .int .i64 b, .int .i64 c, .int .i64 gap] 25)) x) x1) y ∧ OwI (ext (ext (w.alloc (.cells #[.int .i64 a, .int .i64 b, .int .i64 c, .int .i64 gap] 25)) x) x1).heap.size (ext (ext (ext (w.alloc (.cells #[.int .i64 a, .int .i64 b, .int .i64 c, .int .i64 gap] 25)) x) x1) y) D z q (stL l SV gap t k)) (fun _ i _ => n1 - (intOf i).toNat)
    case atStart => exact ⟨0, none, 0, 0, _, by omega, by omega, rfl, rfl, ext_self _, OwI.nil_⟩
    case round =>
      obtain ⟨k, D, z, q, y, hk, hzk, rfl, rfl, rfl, ho⟩ := hrel
      by_cases hlt : k < n1
      · obtain ⟨b1, o1', rfl, hb1, hc1⟩ := hrK.open_ (by omega)
        obtain ⟨b2, o2, rfl, hb2, hm0, hm1⟩ := hl.at_ k hlt
        have hce := hc1 k hlt
        rw [knL_get _ _ _ _ _ _ hlt] at hce
        clear hc1
        have hzb : z ≤ 1099511627776 := by omega
        have hb21 : b2 < w.heap.size + 1 := by omega
        cases hp : knAt l SV gap t k
        · have HN := Lib.hid (stL_yes hp)
          rw [hp] at hce
          go_wp2_with (first | (at_builtin; (refine wpl_push_int (ext (ext (w.alloc (.cells #[.int .i64 a, .int .i64 b, .int .i64 c, .int .i64 gap] 25)) x) x1) _ _ _ ?_ rfl _ _ rfl D z q _ rfl ho ?_ ?_ rfl hzb ?_); (focus (first | rfl | (simp; done))); (focus (repeat (first | exact Below.refl _ _ | assumption | refine bExt ?_ _ | refine bAlloc ?_ _ | refine bDrewN ?_ _ | refine bDrew ?_ | refine bSet ?_ (by first | exact Nat.le_refl _ | omega | (simp; done) | (simp; omega)) _))); (focus (repeat (first | exact Below.refl _ _ | assumption | refine bExt ?_ _ | refine bAlloc ?_ _ | refine bDrewN ?_ _ | refine bDrew ?_ | refine bSet ?_ (by first | exact Nat.le_refl _ | omega | (simp; done) | (simp; omega)) _))); intro A2 c2 y2 o2' hg2 hd2))
          go_roundw
          case rel => exact ⟨k + 1, A2, z + 1, c2, y2, by omega, by omega, by go_num, rfl, rfl, by rw [HN.out]; exact o2'⟩
          case measure => simp [intOf]; omega
        · have HN := Lib.hid (stL_no hp)
          rw [hp] at hce
          go_wp2
          go_roundw
          case rel => exact ⟨k + 1, D, z, q, y, by omega, by omega, by go_num, rfl, rfl, by rw [HN.out]; exact ho⟩
          case measure => simp [intOf]; omega
      · have hkn := Lib.hid (show k = n1 by omega)
        rw [hkn.out] at ho
        go_wp2
        go_ret2
        exact RetIB.mk_ ho (base_le (by repeat (first | exact Below.refl _ _ | assumption | refine bExt ?_ _ | refine bAlloc ?_ _ | refine bDrewN ?_ _ | refine bDrew ?_ | refine bSet ?_ (by first | exact Nat.le_refl _ | omega | (simp; done) | (simp; omega)) _))) (by repeat (first | exact Below.refl _ _ | assumption | refine bExt ?_ _ | refine bAlloc ?_ _ | refine bDrewN ?_ _ | refine bDrew ?_ | refine bSet ?_ (by first | exact Nat.le_refl _ | omega | (simp; done) | (simp; omega)) _))
set_option maxHeartbeats 2000000 in
theorem implStillToCome_any (w : World) (L : Option Addr) (n cl : Nat) (l : List (Int × Int)) (a b c gap t : Int) (hl : RdS w L n l) (hn : n ≤ 1099511627776) (hnc : n ≤ cl) :
    Calls Try.prog 32 #[.slice L n cl, .agg #[.int .i64 a, .int .i64 b, .int .i64 c, .int .i64 gap], .int .i64 t] w (RetIB w (stV l a b c gap t) (iceOk l a b c gap t)) := by
  have Hl := Lib.hid hl.len
  cases hk : iceOk l a b c gap t
  · have hv : stV l a b c gap t = [] := by simp [stV, hk]
    rw [hv]
    unfold iceOk at hk
    go_enter Try.func32, Try.ntmps32
    go_wp2_with (first | (go_at_call 61; ((with_reducible refine (areTimed_any _ _ _ _ _ _ _ _ _ (hl.below (bAlloc (Below.refl _ _) _)) hn hnc).mono ?_); rintro e w' ⟨rfl, x, rfl⟩)) | (go_at_call 69; ((with_reducible refine (isDayTime_any _ _).mono ?_); rintro e w' ⟨rfl, rfl⟩)))
    all_goals first | (go_ret2; exact RetIB.mk_ OwI.nil_ (Nat.le_refl _) (by repeat (first | exact Below.refl _ _ | assumption | refine bExt ?_ _ | refine bAlloc ?_ _ | refine bDrewN ?_ _ | refine bDrew ?_ | refine bSet ?_ (by first | exact Nat.le_refl _ | omega | (simp; done) | (simp; omega)) _))) | (exfalso; simp_all)
  · have hv : stV l a b c gap t = stL l (runS l a b c gap 0 0) gap t l.length := by simp [stV, hk]
    rw [hv, Hl.out]
    clear hv
    simp only [iceOk, Bool.and_eq_true] at hk
    obtain ⟨ht, htt⟩ := hk
    have hn40 := (timed_facts hl.len ht).2.2.1
    go_enter Try.func32, Try.ntmps32
    go_wp2_with (first | (go_at_call 61; ((with_reducible refine (areTimed_any _ _ _ _ _ _ _ _ _ (hl.below (bAlloc (Below.refl _ _) _)) hn hnc).mono ?_); rintro e w' ⟨rfl, x, rfl⟩)) | (go_at_call 69; ((with_reducible refine (isDayTime_any _ _).mono ?_); rintro e w' ⟨rfl, rfl⟩)) | (go_at_call 89; ((with_reducible refine (knownAt_any _ _ _ _ _ _ _ _ _ _ (hl.below (by repeat (first | exact Below.refl _ _ | assumption | refine bExt ?_ _ | refine bAlloc ?_ _ | refine bDrewN ?_ _ | refine bDrew ?_ | refine bSet ?_ (by first | exact Nat.le_refl _ | omega | (simp; done) | (simp; omega)) _))) hn ht).mono ?_); rintro e w' ⟨A1, n1, c1, x1, rfl, rfl, o1⟩)))
    have hn1 : n1 ≤ 1099511627776 := by have h := o1.len; have := pickI_len (knAt l (runS l a b c gap 0 0) gap t) n; omega
    have hrK := o1.rd
    generalize runS l a b c gap 0 0 = SV at *
    go_loopw [9, 28] (fun s i wr => ∃ (k : Nat) (D : Option Addr) (z q : Nat) (y : World), k ≤ n ∧ z ≤ k ∧ i = .int .i64 k ∧ s = .slice D z q ∧ wr = ext (ext (ext (w.alloc (.cells #[.int .i64 a, .int .i64 b, .int .i64 c, .int .i64 gap] 25)) x) x1) y ∧ OwI (ext (ext (w.alloc (.cells #[.int .i64 a, .int .i64 b, .int .i64 c, .int .i64 gap] 25)) x) x1).heap.size (ext (ext (ext (w.alloc (.cells #[.int .i64 a, .int .i64 b, .int .i64 c, .int .i64 gap] 25)) x) x1) y) D z q (stL l SV gap t k)) (fun _ i _ => n - (intOf i).toNat)
    case atStart =>
      have o0 := OwI.lit_ (R := ext (ext (w.alloc (.cells #[.int .i64 a, .int .i64 b, .int .i64 c, .int .i64 gap] 25)) x) x1) (w := ext (ext (w.alloc (.cells #[.int .i64 a, .int .i64 b, .int .i64 c, .int .i64 gap] 25)) x) x1) (Below.refl _ _) [] (by simp [maxLen]) #[] rfl
      obtain ⟨z, hz⟩ := ext_ex (show Below (ext (ext (w.alloc (.cells #[.int .i64 a, .int .i64 b, .int .i64 c, .int .i64 gap] 25)) x) x1).heap.size (ext (ext (w.alloc (.cells #[.int .i64 a, .int .i64 b, .int .i64 c, .int .i64 gap] 25)) x) x1) ((ext (ext (w.alloc (.cells #[.int .i64 a, .int .i64 b, .int .i64 c, .int .i64 gap] 25)) x) x1).alloc (.cells #[] 3)) from by repeat (first | exact Below.refl _ _ | assumption | refine bExt ?_ _ | refine bAlloc ?_ _ | refine bDrewN ?_ _ | refine bDrew ?_ | refine bSet ?_ (by first | exact Nat.le_refl _ | omega | (simp; done) | (simp; omega)) _))
      rw [hz] at o0
      exact ⟨0, _, 0, _, z, by omega, by omega, rfl, rfl, hz, o0⟩
    case round =>
      obtain ⟨k, D, z, q, y, hk, hzk, rfl, rfl, rfl, ho⟩ := hrel
      by_cases hlt : k < n
      · obtain ⟨b2, o2, rfl, hb2, hm0, hm1⟩ := hl.at_ k hlt
        have hzb : z ≤ 1099511627776 := by omega
        have hb21 : b2 < w.heap.size + 1 := by omega
        have hP := pickI_has (p := knAt l SV gap t) hlt
        have cC := fun w' (h : RdI w' A1 n1 (pickI (knAt l SV gap t) n)) => containsInts_any w' A1 n1 c1 _ (k : Int) h hn1
        rw [hP] at cC
        cases hp : knAt l SV gap t k
        · have HN := Lib.hid (stL_yes hp)
          rw [hp] at cC
          go_wp2_with (first | (go_at_call 90; ((with_reducible refine (cC _ (hrK.below (by repeat (first | exact Below.refl _ _ | assumption | refine bExt ?_ _ | refine bAlloc ?_ _ | refine bDrewN ?_ _ | refine bDrew ?_ | refine bSet ?_ (by first | exact Nat.le_refl _ | omega | (simp; done) | (simp; omega)) _)))).mono ?_); rintro e w' ⟨rfl, rfl⟩)) | (at_builtin; (refine wpl_push_int (ext (ext (w.alloc (.cells #[.int .i64 a, .int .i64 b, .int .i64 c, .int .i64 gap] 25)) x) x1) _ _ _ ?_ rfl _ _ rfl D z q _ rfl ho ?_ ?_ rfl hzb ?_); (focus (first | rfl | (simp; done))); (focus (repeat (first | exact Below.refl _ _ | assumption | refine bExt ?_ _ | refine bAlloc ?_ _ | refine bDrewN ?_ _ | refine bDrew ?_ | refine bSet ?_ (by first | exact Nat.le_refl _ | omega | (simp; done) | (simp; omega)) _))); (focus (repeat (first | exact Below.refl _ _ | assumption | refine bExt ?_ _ | refine bAlloc ?_ _ | refine bDrewN ?_ _ | refine bDrew ?_ | refine bSet ?_ (by first | exact Nat.le_refl _ | omega | (simp; done) | (simp; omega)) _))); intro A2 c2 y2 o2' hg2 hd2))
          go_roundw
          case rel => exact ⟨k + 1, A2, z + 1, c2, y2, by omega, by omega, by go_num, rfl, rfl, by rw [HN.out]; exact o2'⟩
          case measure => simp [intOf]; omega
        · have HN := Lib.hid (stL_no hp)
          rw [hp] at cC
          go_wp2_with (first | (go_at_call 90; ((with_reducible refine (cC _ (hrK.below (by repeat (first | exact Below.refl _ _ | assumption | refine bExt ?_ _ | refine bAlloc ?_ _ | refine bDrewN ?_ _ | refine bDrew ?_ | refine bSet ?_ (by first | exact Nat.le_refl _ | omega | (simp; done) | (simp; omega)) _)))).mono ?_); rintro e w' ⟨rfl, rfl⟩)))
          obtain ⟨y', hy⟩ := ext_ex (show Below (ext (ext (w.alloc (.cells #[.int .i64 a, .int .i64 b, .int .i64 c, .int .i64 gap] 25)) x) x1).heap.size (ext (ext (w.alloc (.cells #[.int .i64 a, .int .i64 b, .int .i64 c, .int .i64 gap] 25)) x) x1) ((ext (ext (ext (w.alloc (.cells #[.int .i64 a, .int .i64 b, .int .i64 c, .int .i64 gap] 25)) x) x1) y).alloc (.cells #[.int .i64 (l[k]?.getD (0, 0)).1, .int .i64 (l[k]?.getD (0, 0)).2] 43)) from by repeat (first | exact Below.refl _ _ | assumption | refine bExt ?_ _ | refine bAlloc ?_ _ | refine bDrewN ?_ _ | refine bDrew ?_ | refine bSet ?_ (by first | exact Nat.le_refl _ | omega | (simp; done) | (simp; omega)) _))
          have o1' := ho.below (bAlloc (Below.refl _ _) (.cells #[.int .i64 (l[k]?.getD (0, 0)).1, .int .i64 (l[k]?.getD (0, 0)).2] 43))
          rw [hy] at o1'
          go_roundw
          case rel => exact ⟨k + 1, D, z, q, y', by omega, by omega, by go_num, rfl, hy, by rw [HN.out]; exact o1'⟩
          case measure => simp [intOf]; omega
      · have hkn := Lib.hid (show k = n by omega)
        rw [hkn.out] at ho
        go_wp2
        go_ret2
        exact RetIB.mk_ ho (base_le (by repeat (first | exact Below.refl _ _ | assumption | refine bExt ?_ _ | refine bAlloc ?_ _ | refine bDrewN ?_ _ | refine bDrew ?_ | refine bSet ?_ (by first | exact Nat.le_refl _ | omega | (simp; done) | (simp; omega)) _))) (by repeat (first | exact Below.refl _ _ | assumption | refine bExt ?_ _ | refine bAlloc ?_ _ | refine bDrewN ?_ _ | refine bDrew ?_ | refine bSet ?_ (by first | exact Nat.le_refl _ | omega | (simp; done) | (simp; omega)) _))
end Go.Proofs.Ytogglhgagblihaa
