/- Contracts of RangesOf and DoubleMedians, in the program and in the reference. Conditions: lengths below 2^40. -/
import Derived.Test.YtpjaiihkgeabiaaMarksC
import Derived.Test.YtpjaiihkgeabiaaSorts2
set_option linter.unusedVariables false
set_option linter.unusedSimpArgs false
set_option maxRecDepth 100000
namespace Go.Proofs.Ytpjaiihkgeabiaa
open Go.ChangeShapes Go.WideShapes Go.ChangeAt Go.RowKit
def rangeI (l : List Int) : Int := (sortI l)[l.length - 1]?.getD 0 - (sortI l)[0]?.getD 0
def medI (l : List Int) : Int := (sortI l)[(l.length - 1) / 2]?.getD 0 + (sortI l)[l.length / 2]?.getD 0
theorem rangeI_eq {l : List Int} (h : 0 < l.length) : rangeI l = Lib.maxOf l - Lib.minOf l := by rw [rangeI, sortI_last h, sortI_first h]
def rangesV (gg kk : List (List Int)) : List Int := if marksB gg kk then gg.map rangeI else []
def mediansV (gg kk : List (List Int)) : List Int := if marksB gg kk then gg.map medI else []
theorem rangesV_len (gg kk : List (List Int)) : (rangesV gg kk).length ≤ 14 := by
  unfold rangesV
  cases h : marksB gg kk
  · simp
  · have := (marksB_of h).2.1; simpa using this
theorem mediansV_len (gg kk : List (List Int)) : (mediansV gg kk).length ≤ 14 := by
  unfold mediansV
  cases h : marksB gg kk
  · simp
  · have := (marksB_of h).2.1; simpa using this
theorem sortI_bd {l : List Int} {a b : Int} (h : ∀ x ∈ l, a ≤ x ∧ x ≤ b) (k : Nat) (hk : k < l.length) : a ≤ (sortI l)[k]?.getD 0 ∧ (sortI l)[k]?.getD 0 ≤ b :=
  h _ ((sortI_perm l).mem_iff.1 (getD_mem 0 _ _ (by rw [sortI_len]; exact hk)))
theorem map_step {α : Type} (f : List Int → α) (gg : List (List Int)) (k : Nat) (h : k < gg.length) : (gg.take (k + 1)).map f = (gg.take k).map f ++ [f (gg[k]?.getD [])] := by
  rw [take_succ_getD [] gg k h]; simp
/-- A row of valid marks. -/
theorem row_of {w : World} {A B : Option Addr} {n m : Nat} {gg kk : List (List Int)} (hm : RdMk w A n B m gg kk) (hk : marksB gg kk = true) (k : Nat) (hlt : k < n) :
    ∃ b off B1 m1 d1, A = some ⟨b, off, none⟩ ∧ b < w.heap.size ∧ w.cell? ⟨b, off + k, none⟩ = some (.slice B1 m1 d1) ∧ RdI w B1 m1 (gg[k]?.getD []) ∧ (3 ≤ m1 ∧ m1 ≤ 9) ∧ (∀ x ∈ gg[k]?.getD [], -5 ≤ x ∧ x ≤ 5) ∧ (gg[k]?.getD []).length = m1 := by
  obtain ⟨_, _, h5, h6⟩ := marksB_of hk
  obtain ⟨b, off, B1, m1, d1, e, hb, hc, hr, _, _⟩ := hm.1.at_ k hlt
  obtain ⟨h7, h8⟩ := h6 k (by rw [hm.1.len]; exact hlt)
  have := hr.len
  exact ⟨b, off, B1, m1, d1, e, hb, hc, hr, by omega, h8, this⟩
theorem marks14 {w : World} {A B : Option Addr} {n m : Nat} {gg kk : List (List Int)} (hm : RdMk w A n B m gg kk) (hk : marksB gg kk = true) : n ≤ 14 := by
  have := (marksB_of hk).2.1
  rw [hm.1.len] at this; exact this
set_option maxHeartbeats 1000000 in
theorem specRangesOf_any (w : World) (A B : Option Addr) (n m c d : Nat) (gg kk : List (List Int)) (hm : RdMk w A n B m gg kk) :
    Calls Try.prog 8 #[.agg #[.slice A n c, .slice B m d]] w (RetIB w (rangesV gg kk) (marksB gg kk)) := by
  have Hl := Lib.hid hm.1.len
  cases hk : marksB gg kk
  · have hv : rangesV gg kk = [] := by simp [rangesV, hk]
    rw [hv]
    go_enter Try.func8, Try.ntmps8
    go_wp2_with (first | (go_at_call 35; ((with_reducible refine (mkAll_any _ _ _ _ _ _ _ _ _ (hm.below (by repeat (first | exact Below.refl _ _ | assumption | refine bExt ?_ _ | refine bAlloc ?_ _ | refine bDrewN ?_ _ | refine bDrew ?_ | refine bSet ?_ (by first | exact Nat.le_refl _ | omega | (simp; done) | (simp; omega)) _)))).mono ?_); rintro e w' ⟨rfl, x0, rfl⟩)))
    go_ret2
    exact RetIB.mk_ OwI.nil_ (Nat.le_refl _) (by repeat (first | exact Below.refl _ _ | assumption | refine bExt ?_ _ | refine bAlloc ?_ _ | refine bDrewN ?_ _ | refine bDrew ?_ | refine bSet ?_ (by first | exact Nat.le_refl _ | omega | (simp; done) | (simp; omega)) _))
  · have hv : rangesV gg kk = gg.map rangeI := by simp [rangesV, hk]
    rw [hv]
    clear hv
    have h14 := marks14 hm hk
    go_enter Try.func8, Try.ntmps8
    go_wp2_with (first | (go_at_call 35; ((with_reducible refine (mkAll_any _ _ _ _ _ _ _ _ _ (hm.below (by repeat (first | exact Below.refl _ _ | assumption | refine bExt ?_ _ | refine bAlloc ?_ _ | refine bDrewN ?_ _ | refine bDrew ?_ | refine bSet ?_ (by first | exact Nat.le_refl _ | omega | (simp; done) | (simp; omega)) _)))).mono ?_); rintro e w' ⟨rfl, x0, rfl⟩)))
    go_loopw [4, 14] (fun v i wr => ∃ (k : Nat) (D : Option Addr) (q : Nat) (x : World), k ≤ n ∧ i = .int .i64 k ∧ v = .slice D k q ∧ wr = ext (w.alloc (.cells #[.slice A n c, .slice B m d] 25)) x ∧ OwI (w.alloc (.cells #[.slice A n c, .slice B m d] 25)).heap.size (ext (w.alloc (.cells #[.slice A n c, .slice B m d] 25)) x) D k q ((gg.take k).map rangeI)) (fun _ i _ => n - (intOf i).toNat)
    case atStart => exact ⟨0, none, 0, x0, by omega, rfl, rfl, rfl, OwI.nil_⟩
    case round =>
      obtain ⟨k, D, q, x, hkn, rfl, rfl, rfl, ho⟩ := hrel
      by_cases hlt : k < n
      · obtain ⟨b0, off, B1, m1, d1, rfl, hb0, hc0, hr, ⟨h3, h9⟩, hbd, hrl⟩ := row_of hm hk k hlt
        have HS := Lib.hid (map_step rangeI gg k (by rw [Hl.out]; exact hlt))
        generalize gg[k]?.getD [] = lk at *
        generalize (gg.take k).map rangeI = done at *
        have hkb : k ≤ 1099511627776 := by omega
        go_wp2_with (first | (go_at_call 36; ((with_reducible refine (jdSorted_any _ _ _ _ _ (hr.below (by repeat (first | exact Below.refl _ _ | assumption | refine bExt ?_ _ | refine bAlloc ?_ _ | refine bDrewN ?_ _ | refine bDrew ?_ | refine bSet ?_ (by first | exact Nat.le_refl _ | omega | (simp; done) | (simp; omega)) _))) (by omega)).mono ?_); rintro e w' ⟨A1, n1, c1, x1, rfl, rfl, o1⟩)) | (go_at_call 37; ((with_reducible refine (sortedInts_any _ _ _ _ _ (hr.below (by repeat (first | exact Below.refl _ _ | assumption | refine bExt ?_ _ | refine bAlloc ?_ _ | refine bDrewN ?_ _ | refine bDrew ?_ | refine bSet ?_ (by first | exact Nat.le_refl _ | omega | (simp; done) | (simp; omega)) _))) (by omega)).mono ?_); rintro e w' ⟨A1, n1, c1, x1, rfl, rfl, o1⟩)))
        obtain rfl : n1 = m1 := o1.len.symm.trans ((sortI_len lk).trans hrl)
        obtain ⟨g1, rfl, hg1, hz1⟩ := o1.form_ (by omega)
        obtain ⟨j, rfl⟩ : ∃ j, n1 = j + 1 := ⟨n1 - 1, by omega⟩
        have hca := o1.cell_ j (by omega)
        have hcb := o1.cell_ 0 (by omega)
        have ba := sortI_bd hbd j (by omega)
        have bb := sortI_bd hbd 0 (by omega)
        have HV := Lib.hid (show rangeI lk = (sortI lk)[j]?.getD 0 - (sortI lk)[0]?.getD 0 by rw [rangeI, hrl]; rfl)
        generalize (sortI lk)[j]?.getD 0 = za at *
        generalize (sortI lk)[0]?.getD 0 = zb at *
        have hw1 : IntKind.i64.wrap (j : Int) = j := IntWalk.i64_in _ (by omega)
        have hjj : (j : Int) < (j : Int) + 1 := by omega
        have hw2 : IntKind.i64.wrap (za - zb) = za - zb := IntWalk.i64_in _ (by omega)
        go_region_law (first
          | (refine step_app_int (w.alloc (.cells #[.slice (some ⟨b0, off, none⟩) n c, .slice B m d] 25)) rfl _ _ rfl D _ q done rfl ho ?_ ?_ _ 1 1 [za - zb] rfl (RdI.one_ ?_ ?_) (Below.refl _ _) (by omega) ?_; (focus (repeat (first | exact Below.refl _ _ | assumption | refine bExt ?_ _ | refine bAlloc ?_ _ | refine bDrewN ?_ _ | refine bDrew ?_ | refine bSet ?_ (by first | exact Nat.le_refl _ | omega | (simp; done) | (simp; omega)) _))); (focus (repeat (first | exact Below.refl _ _ | assumption | refine bExt ?_ _ | refine bAlloc ?_ _ | refine bDrewN ?_ _ | refine bDrew ?_ | refine bSet ?_ (by first | exact Nat.le_refl _ | omega | (simp; done) | (simp; omega)) _))); (focus (simp [go_sem])); (focus (simp [go_sem])); intro A2 c2 y2 o2 hg2 hd2))
        all_goals go_wp2
        all_goals
          go_roundw
          case rel => exact ⟨k + 1, A2, c2, y2, by omega, by go_num, rfl, rfl, by rw [HS.out, HV.out]; exact o2⟩
          case measure => simp [intOf]; omega
      · have hkn := Lib.hid (show k = n by omega)
        rw [List.take_of_length_le (by rw [Hl.out]; omega)] at ho
        go_wp2
        go_ret2
        exact RetIB.mk_ ho (base_le (by repeat (first | exact Below.refl _ _ | assumption | refine bExt ?_ _ | refine bAlloc ?_ _ | refine bDrewN ?_ _ | refine bDrew ?_ | refine bSet ?_ (by first | exact Nat.le_refl _ | omega | (simp; done) | (simp; omega)) _))) (by repeat (first | exact Below.refl _ _ | assumption | refine bExt ?_ _ | refine bAlloc ?_ _ | refine bDrewN ?_ _ | refine bDrew ?_ | refine bSet ?_ (by first | exact Nat.le_refl _ | omega | (simp; done) | (simp; omega)) _))
set_option maxHeartbeats 1000000 in
theorem implRangesOf_any (w : World) (A B : Option Addr) (n m c d : Nat) (gg kk : List (List Int)) (hm : RdMk w A n B m gg kk) :
    Calls Try.prog 7 #[.agg #[.slice A n c, .slice B m d]] w (RetIB w (rangesV gg kk) (marksB gg kk)) := by
  have Hl := Lib.hid hm.1.len
  cases hk : marksB gg kk
  · have hv : rangesV gg kk = [] := by simp [rangesV, hk]
    rw [hv]
    go_enter Try.func7, Try.ntmps7
    go_wp2_with (first | (go_at_call 32; ((with_reducible refine (isMarks_any _ _ _ _ _ _ _ _ _ (hm.below (by repeat (first | exact Below.refl _ _ | assumption | refine bExt ?_ _ | refine bAlloc ?_ _ | refine bDrewN ?_ _ | refine bDrew ?_ | refine bSet ?_ (by first | exact Nat.le_refl _ | omega | (simp; done) | (simp; omega)) _)))).mono ?_); rintro e w' ⟨rfl, x0, rfl⟩)))
    go_ret2
    exact RetIB.mk_ OwI.nil_ (Nat.le_refl _) (by repeat (first | exact Below.refl _ _ | assumption | refine bExt ?_ _ | refine bAlloc ?_ _ | refine bDrewN ?_ _ | refine bDrew ?_ | refine bSet ?_ (by first | exact Nat.le_refl _ | omega | (simp; done) | (simp; omega)) _))
  · have hv : rangesV gg kk = gg.map rangeI := by simp [rangesV, hk]
    rw [hv]
    clear hv
    have h14 := marks14 hm hk
    go_enter Try.func7, Try.ntmps7
    go_wp2_with (first | (go_at_call 32; ((with_reducible refine (isMarks_any _ _ _ _ _ _ _ _ _ (hm.below (by repeat (first | exact Below.refl _ _ | assumption | refine bExt ?_ _ | refine bAlloc ?_ _ | refine bDrewN ?_ _ | refine bDrew ?_ | refine bSet ?_ (by first | exact Nat.le_refl _ | omega | (simp; done) | (simp; omega)) _)))).mono ?_); rintro e w' ⟨rfl, x0, rfl⟩)))
    go_loopw [4, 14] (fun v i wr => ∃ (k : Nat) (D : Option Addr) (q : Nat) (x : World), k ≤ n ∧ i = .int .i64 k ∧ v = .slice D k q ∧ wr = ext (w.alloc (.cells #[.slice A n c, .slice B m d] 25)) x ∧ OwI (w.alloc (.cells #[.slice A n c, .slice B m d] 25)).heap.size (ext (w.alloc (.cells #[.slice A n c, .slice B m d] 25)) x) D k q ((gg.take k).map rangeI)) (fun _ i _ => n - (intOf i).toNat)
    case atStart => 
      have o0 := OwI.lit_ (R := (w.alloc (.cells #[.slice A n c, .slice B m d] 25))) (w := ext (w.alloc (.cells #[.slice A n c, .slice B m d] 25)) x0) (ext_below _ _) [] (by simp [maxLen]) #[] rfl
      obtain ⟨z, hz⟩ := ext_ex (show Below (w.alloc (.cells #[.slice A n c, .slice B m d] 25)).heap.size (w.alloc (.cells #[.slice A n c, .slice B m d] 25)) ((ext (w.alloc (.cells #[.slice A n c, .slice B m d] 25)) x0).alloc (.cells #[] 3)) from by repeat (first | exact Below.refl _ _ | assumption | refine bExt ?_ _ | refine bAlloc ?_ _ | refine bDrewN ?_ _ | refine bDrew ?_ | refine bSet ?_ (by first | exact Nat.le_refl _ | omega | (simp; done) | (simp; omega)) _))
      rw [hz] at o0
      exact ⟨0, _, _, z, by omega, rfl, rfl, hz, o0⟩
    case round =>
      obtain ⟨k, D, q, x, hkn, rfl, rfl, rfl, ho⟩ := hrel
      by_cases hlt : k < n
      · obtain ⟨b0, off, B1, m1, d1, rfl, hb0, hc0, hr, ⟨h3, h9⟩, hbd, hrl⟩ := row_of hm hk k hlt
        have HS := Lib.hid (map_step rangeI gg k (by rw [Hl.out]; exact hlt))
        generalize gg[k]?.getD [] = lk at *
        generalize (gg.take k).map rangeI = done at *
        have hkb : k ≤ 1099511627776 := by omega
        have ba := hbd _ (maxOf_mem (l := lk) (by omega)).1
        have bb := hbd _ (minOf_mem (l := lk) (by omega)).1
        have HV := Lib.hid (rangeI_eq (l := lk) (by omega))
        go_wp2_with (first | (go_at_call 33; ((with_reducible refine (maxInts_any _ _ _ _ _ (hr.below (by repeat (first | exact Below.refl _ _ | assumption | refine bExt ?_ _ | refine bAlloc ?_ _ | refine bDrewN ?_ _ | refine bDrew ?_ | refine bSet ?_ (by first | exact Nat.le_refl _ | omega | (simp; done) | (simp; omega)) _))) (by omega) (by omega)).mono ?_); rintro e w' ⟨rfl, rfl⟩)) | (go_at_call 34; ((with_reducible refine (minInts_any _ _ _ _ _ (hr.below (by repeat (first | exact Below.refl _ _ | assumption | refine bExt ?_ _ | refine bAlloc ?_ _ | refine bDrewN ?_ _ | refine bDrew ?_ | refine bSet ?_ (by first | exact Nat.le_refl _ | omega | (simp; done) | (simp; omega)) _))) (by omega) (by omega)).mono ?_); rintro e w' ⟨rfl, rfl⟩)) | (at_builtin; (refine wpl_push_int (w.alloc (.cells #[.slice (some ⟨b0, off, none⟩) n c, .slice B m d] 25)) _ _ _ ?_ rfl _ _ rfl D k q _ rfl ho ?_ ?_ rfl hkb ?_); (focus (first | rfl | (simp; done))); (focus (repeat (first | exact Below.refl _ _ | assumption | refine bExt ?_ _ | refine bAlloc ?_ _ | refine bDrewN ?_ _ | refine bDrew ?_ | refine bSet ?_ (by first | exact Nat.le_refl _ | omega | (simp; done) | (simp; omega)) _))); (focus (repeat (first | exact Below.refl _ _ | assumption | refine bExt ?_ _ | refine bAlloc ?_ _ | refine bDrewN ?_ _ | refine bDrew ?_ | refine bSet ?_ (by first | exact Nat.le_refl _ | omega | (simp; done) | (simp; omega)) _))); intro A2 c2 y2 o2 hg2 hd2))
        all_goals
          go_roundw
          case rel => exact ⟨k + 1, A2, c2, y2, by omega, by go_num, rfl, rfl, by rw [HS.out, HV.out]; exact o2⟩
          case measure => simp [intOf]; omega
      · have hkn := Lib.hid (show k = n by omega)
        rw [List.take_of_length_le (by rw [Hl.out]; omega)] at ho
        go_wp2
        go_ret2
        exact RetIB.mk_ ho (base_le (by repeat (first | exact Below.refl _ _ | assumption | refine bExt ?_ _ | refine bAlloc ?_ _ | refine bDrewN ?_ _ | refine bDrew ?_ | refine bSet ?_ (by first | exact Nat.le_refl _ | omega | (simp; done) | (simp; omega)) _))) (by repeat (first | exact Below.refl _ _ | assumption | refine bExt ?_ _ | refine bAlloc ?_ _ | refine bDrewN ?_ _ | refine bDrew ?_ | refine bSet ?_ (by first | exact Nat.le_refl _ | omega | (simp; done) | (simp; omega)) _))
set_option maxHeartbeats 1000000 in
theorem specDoubleMedians_any (w : World) (A B : Option Addr) (n m c d : Nat) (gg kk : List (List Int)) (hm : RdMk w A n B m gg kk) :
    Calls Try.prog 10 #[.agg #[.slice A n c, .slice B m d]] w (RetIB w (mediansV gg kk) (marksB gg kk)) := by
  have Hl := Lib.hid hm.1.len
  cases hk : marksB gg kk
  · have hv : mediansV gg kk = [] := by simp [mediansV, hk]
    rw [hv]
    go_enter Try.func10, Try.ntmps10
    go_wp2_with (first | (go_at_call 35; ((with_reducible refine (mkAll_any _ _ _ _ _ _ _ _ _ (hm.below (by repeat (first | exact Below.refl _ _ | assumption | refine bExt ?_ _ | refine bAlloc ?_ _ | refine bDrewN ?_ _ | refine bDrew ?_ | refine bSet ?_ (by first | exact Nat.le_refl _ | omega | (simp; done) | (simp; omega)) _)))).mono ?_); rintro e w' ⟨rfl, x0, rfl⟩)))
    go_ret2
    exact RetIB.mk_ OwI.nil_ (Nat.le_refl _) (by repeat (first | exact Below.refl _ _ | assumption | refine bExt ?_ _ | refine bAlloc ?_ _ | refine bDrewN ?_ _ | refine bDrew ?_ | refine bSet ?_ (by first | exact Nat.le_refl _ | omega | (simp; done) | (simp; omega)) _))
  · have hv : mediansV gg kk = gg.map medI := by simp [mediansV, hk]
    rw [hv]
    clear hv
    have h14 := marks14 hm hk
    go_enter Try.func10, Try.ntmps10
    go_wp2_with (first | (go_at_call 35; ((with_reducible refine (mkAll_any _ _ _ _ _ _ _ _ _ (hm.below (by repeat (first | exact Below.refl _ _ | assumption | refine bExt ?_ _ | refine bAlloc ?_ _ | refine bDrewN ?_ _ | refine bDrew ?_ | refine bSet ?_ (by first | exact Nat.le_refl _ | omega | (simp; done) | (simp; omega)) _)))).mono ?_); rintro e w' ⟨rfl, x0, rfl⟩)))
    go_loopw [4, 14] (fun v i wr => ∃ (k : Nat) (D : Option Addr) (q : Nat) (x : World), k ≤ n ∧ i = .int .i64 k ∧ v = .slice D k q ∧ wr = ext (w.alloc (.cells #[.slice A n c, .slice B m d] 25)) x ∧ OwI (w.alloc (.cells #[.slice A n c, .slice B m d] 25)).heap.size (ext (w.alloc (.cells #[.slice A n c, .slice B m d] 25)) x) D k q ((gg.take k).map medI)) (fun _ i _ => n - (intOf i).toNat)
    case atStart => exact ⟨0, none, 0, x0, by omega, rfl, rfl, rfl, OwI.nil_⟩
    case round =>
      obtain ⟨k, D, q, x, hkn, rfl, rfl, rfl, ho⟩ := hrel
      by_cases hlt : k < n
      · obtain ⟨b0, off, B1, m1, d1, rfl, hb0, hc0, hr, ⟨h3, h9⟩, hbd, hrl⟩ := row_of hm hk k hlt
        have HS := Lib.hid (map_step medI gg k (by rw [Hl.out]; exact hlt))
        generalize gg[k]?.getD [] = lk at *
        generalize (gg.take k).map medI = done at *
        have hkb : k ≤ 1099511627776 := by omega
        go_wp2_with (first | (go_at_call 36; ((with_reducible refine (jdSorted_any _ _ _ _ _ (hr.below (by repeat (first | exact Below.refl _ _ | assumption | refine bExt ?_ _ | refine bAlloc ?_ _ | refine bDrewN ?_ _ | refine bDrew ?_ | refine bSet ?_ (by first | exact Nat.le_refl _ | omega | (simp; done) | (simp; omega)) _))) (by omega)).mono ?_); rintro e w' ⟨A1, n1, c1, x1, rfl, rfl, o1⟩)) | (go_at_call 37; ((with_reducible refine (sortedInts_any _ _ _ _ _ (hr.below (by repeat (first | exact Below.refl _ _ | assumption | refine bExt ?_ _ | refine bAlloc ?_ _ | refine bDrewN ?_ _ | refine bDrew ?_ | refine bSet ?_ (by first | exact Nat.le_refl _ | omega | (simp; done) | (simp; omega)) _))) (by omega)).mono ?_); rintro e w' ⟨A1, n1, c1, x1, rfl, rfl, o1⟩)))
        obtain rfl : n1 = m1 := o1.len.symm.trans ((sortI_len lk).trans hrl)
        obtain ⟨g1, rfl, hg1, hz1⟩ := o1.form_ (by omega)
        obtain ⟨j, rfl⟩ : ∃ j, n1 = j + 1 := ⟨n1 - 1, by omega⟩
        obtain ⟨p1, hp1⟩ : ∃ p, p = j / 2 := ⟨_, rfl⟩
        obtain ⟨p2, hp2⟩ : ∃ p, p = (j + 1) / 2 := ⟨_, rfl⟩
        have hca := o1.cell_ p1 (by omega)
        have hcb := o1.cell_ p2 (by omega)
        have ba := sortI_bd hbd p1 (by omega)
        have bb := sortI_bd hbd p2 (by omega)
        have HV := Lib.hid (show medI lk = (sortI lk)[p1]?.getD 0 + (sortI lk)[p2]?.getD 0 by rw [medI, hrl, hp1, hp2]; rfl)
        generalize (sortI lk)[p1]?.getD 0 = za at *
        generalize (sortI lk)[p2]?.getD 0 = zb at *
        have hw1 : IntKind.i64.wrap (j : Int) = j := IntWalk.i64_in _ (by omega)
        have hw2 : IntKind.i64.wrap (za + zb) = za + zb := IntWalk.i64_in _ (by omega)
        have hw3 : IntKind.i64.wrap ((j : Int).tdiv 2) = p1 := by rw [Int.tdiv_eq_ediv_of_nonneg (by omega), IntWalk.i64_in _ (by omega)]; omega
        have hw4 : IntKind.i64.wrap (((j : Int) + 1).tdiv 2) = p2 := by rw [Int.tdiv_eq_ediv_of_nonneg (by omega), IntWalk.i64_in _ (by omega)]; omega
        have hw5 : IntKind.i64.wrap ((j : Int) / 2) = p1 := by rw [IntWalk.i64_in _ (by omega)]; omega
        have hw6 : IntKind.i64.wrap (((j : Int) + 1) / 2) = p2 := by rw [IntWalk.i64_in _ (by omega)]; omega
        have hb1 : (p1 : Int) < (j : Int) + 1 := by omega
        have hb2 : (p2 : Int) < (j : Int) + 1 := by omega
        clear hp1 hp2
        go_region_law (first
          | (refine step_app_int (w.alloc (.cells #[.slice (some ⟨b0, off, none⟩) n c, .slice B m d] 25)) rfl _ _ rfl D _ q done rfl ho ?_ ?_ _ 1 1 [za + zb] rfl (RdI.one_ ?_ ?_) (Below.refl _ _) (by omega) ?_; (focus (repeat (first | exact Below.refl _ _ | assumption | refine bExt ?_ _ | refine bAlloc ?_ _ | refine bDrewN ?_ _ | refine bDrew ?_ | refine bSet ?_ (by first | exact Nat.le_refl _ | omega | (simp; done) | (simp; omega)) _))); (focus (repeat (first | exact Below.refl _ _ | assumption | refine bExt ?_ _ | refine bAlloc ?_ _ | refine bDrewN ?_ _ | refine bDrew ?_ | refine bSet ?_ (by first | exact Nat.le_refl _ | omega | (simp; done) | (simp; omega)) _))); (focus (simp [go_sem])); (focus (simp [go_sem])); intro A2 c2 y2 o2 hg2 hd2))
        all_goals go_wp2
        all_goals
          go_roundw
          case rel => exact ⟨k + 1, A2, c2, y2, by omega, by go_num, rfl, rfl, by rw [HS.out, HV.out]; exact o2⟩
          case measure => simp [intOf]; omega
      · have hkn := Lib.hid (show k = n by omega)
        rw [List.take_of_length_le (by rw [Hl.out]; omega)] at ho
        go_wp2
        go_ret2
        exact RetIB.mk_ ho (base_le (by repeat (first | exact Below.refl _ _ | assumption | refine bExt ?_ _ | refine bAlloc ?_ _ | refine bDrewN ?_ _ | refine bDrew ?_ | refine bSet ?_ (by first | exact Nat.le_refl _ | omega | (simp; done) | (simp; omega)) _))) (by repeat (first | exact Below.refl _ _ | assumption | refine bExt ?_ _ | refine bAlloc ?_ _ | refine bDrewN ?_ _ | refine bDrew ?_ | refine bSet ?_ (by first | exact Nat.le_refl _ | omega | (simp; done) | (simp; omega)) _))
set_option maxHeartbeats 1000000 in
theorem implDoubleMedians_any (w : World) (A B : Option Addr) (n m c d : Nat) (gg kk : List (List Int)) (hm : RdMk w A n B m gg kk) :
    Calls Try.prog 9 #[.agg #[.slice A n c, .slice B m d]] w (RetIB w (mediansV gg kk) (marksB gg kk)) := by
  have Hl := Lib.hid hm.1.len
  cases hk : marksB gg kk
  · have hv : mediansV gg kk = [] := by simp [mediansV, hk]
    rw [hv]
    go_enter Try.func9, Try.ntmps9
    go_wp2_with (first | (go_at_call 32; ((with_reducible refine (isMarks_any _ _ _ _ _ _ _ _ _ (hm.below (by repeat (first | exact Below.refl _ _ | assumption | refine bExt ?_ _ | refine bAlloc ?_ _ | refine bDrewN ?_ _ | refine bDrew ?_ | refine bSet ?_ (by first | exact Nat.le_refl _ | omega | (simp; done) | (simp; omega)) _)))).mono ?_); rintro e w' ⟨rfl, x0, rfl⟩)))
    go_ret2
    exact RetIB.mk_ OwI.nil_ (Nat.le_refl _) (by repeat (first | exact Below.refl _ _ | assumption | refine bExt ?_ _ | refine bAlloc ?_ _ | refine bDrewN ?_ _ | refine bDrew ?_ | refine bSet ?_ (by first | exact Nat.le_refl _ | omega | (simp; done) | (simp; omega)) _))
  · have hv : mediansV gg kk = gg.map medI := by simp [mediansV, hk]
    rw [hv]
    clear hv
    have h14 := marks14 hm hk
    go_enter Try.func9, Try.ntmps9
    go_wp2_with (first | (go_at_call 32; ((with_reducible refine (isMarks_any _ _ _ _ _ _ _ _ _ (hm.below (by repeat (first | exact Below.refl _ _ | assumption | refine bExt ?_ _ | refine bAlloc ?_ _ | refine bDrewN ?_ _ | refine bDrew ?_ | refine bSet ?_ (by first | exact Nat.le_refl _ | omega | (simp; done) | (simp; omega)) _)))).mono ?_); rintro e w' ⟨rfl, x0, rfl⟩)))
    go_loopw [4, 16] (fun v i wr => ∃ (k : Nat) (D : Option Addr) (q : Nat) (x : World), k ≤ n ∧ i = .int .i64 k ∧ v = .slice D k q ∧ wr = ext (w.alloc (.cells #[.slice A n c, .slice B m d] 25)) x ∧ OwI (w.alloc (.cells #[.slice A n c, .slice B m d] 25)).heap.size (ext (w.alloc (.cells #[.slice A n c, .slice B m d] 25)) x) D k q ((gg.take k).map medI)) (fun _ i _ => n - (intOf i).toNat)
    case atStart => 
      have o0 := OwI.lit_ (R := (w.alloc (.cells #[.slice A n c, .slice B m d] 25))) (w := ext (w.alloc (.cells #[.slice A n c, .slice B m d] 25)) x0) (ext_below _ _) [] (by simp [maxLen]) #[] rfl
      obtain ⟨z, hz⟩ := ext_ex (show Below (w.alloc (.cells #[.slice A n c, .slice B m d] 25)).heap.size (w.alloc (.cells #[.slice A n c, .slice B m d] 25)) ((ext (w.alloc (.cells #[.slice A n c, .slice B m d] 25)) x0).alloc (.cells #[] 3)) from by repeat (first | exact Below.refl _ _ | assumption | refine bExt ?_ _ | refine bAlloc ?_ _ | refine bDrewN ?_ _ | refine bDrew ?_ | refine bSet ?_ (by first | exact Nat.le_refl _ | omega | (simp; done) | (simp; omega)) _))
      rw [hz] at o0
      exact ⟨0, _, _, z, by omega, rfl, rfl, hz, o0⟩
    case round =>
      obtain ⟨k, D, q, x, hkn, rfl, rfl, rfl, ho⟩ := hrel
      by_cases hlt : k < n
      · obtain ⟨b0, off, B1, m1, d1, rfl, hb0, hc0, hr, ⟨h3, h9⟩, hbd, hrl⟩ := row_of hm hk k hlt
        have HS := Lib.hid (map_step medI gg k (by rw [Hl.out]; exact hlt))
        generalize gg[k]?.getD [] = lk at *
        generalize (gg.take k).map medI = done at *
        have hkb : k ≤ 1099511627776 := by omega
        go_wp2_with (first | (go_at_call 36; ((with_reducible refine (jdSorted_any _ _ _ _ _ (hr.below (by repeat (first | exact Below.refl _ _ | assumption | refine bExt ?_ _ | refine bAlloc ?_ _ | refine bDrewN ?_ _ | refine bDrew ?_ | refine bSet ?_ (by first | exact Nat.le_refl _ | omega | (simp; done) | (simp; omega)) _))) (by omega)).mono ?_); rintro e w' ⟨A1, n1, c1, x1, rfl, rfl, o1⟩)) | (go_at_call 37; ((with_reducible refine (sortedInts_any _ _ _ _ _ (hr.below (by repeat (first | exact Below.refl _ _ | assumption | refine bExt ?_ _ | refine bAlloc ?_ _ | refine bDrewN ?_ _ | refine bDrew ?_ | refine bSet ?_ (by first | exact Nat.le_refl _ | omega | (simp; done) | (simp; omega)) _))) (by omega)).mono ?_); rintro e w' ⟨A1, n1, c1, x1, rfl, rfl, o1⟩)))
        obtain rfl : n1 = m1 := o1.len.symm.trans ((sortI_len lk).trans hrl)
        obtain ⟨g1, rfl, hg1, hz1⟩ := o1.form_ (by omega)
        obtain ⟨j, rfl⟩ : ∃ j, n1 = j + 1 := ⟨n1 - 1, by omega⟩
        obtain ⟨p1, hp1⟩ : ∃ p, p = j / 2 := ⟨_, rfl⟩
        obtain ⟨p2, hp2⟩ : ∃ p, p = (j + 1) / 2 := ⟨_, rfl⟩
        have hca := o1.cell_ p1 (by omega)
        have hcb := o1.cell_ p2 (by omega)
        have ba := sortI_bd hbd p1 (by omega)
        have bb := sortI_bd hbd p2 (by omega)
        have HV := Lib.hid (show medI lk = (sortI lk)[p1]?.getD 0 + (sortI lk)[p2]?.getD 0 by rw [medI, hrl, hp1, hp2]; rfl)
        generalize (sortI lk)[p1]?.getD 0 = za at *
        generalize (sortI lk)[p2]?.getD 0 = zb at *
        have hw1 : IntKind.i64.wrap (j : Int) = j := IntWalk.i64_in _ (by omega)
        have hw2 : IntKind.i64.wrap (za + zb) = za + zb := IntWalk.i64_in _ (by omega)
        have hw3 : IntKind.i64.wrap ((j : Int).tdiv 2) = p1 := by rw [Int.tdiv_eq_ediv_of_nonneg (by omega), IntWalk.i64_in _ (by omega)]; omega
        have hw4 : IntKind.i64.wrap (((j : Int) + 1).tdiv 2) = p2 := by rw [Int.tdiv_eq_ediv_of_nonneg (by omega), IntWalk.i64_in _ (by omega)]; omega
        have hw5 : IntKind.i64.wrap ((j : Int) / 2) = p1 := by rw [IntWalk.i64_in _ (by omega)]; omega
        have hw6 : IntKind.i64.wrap (((j : Int) + 1) / 2) = p2 := by rw [IntWalk.i64_in _ (by omega)]; omega
        have hb1 : (p1 : Int) < (j : Int) + 1 := by omega
        have hb2 : (p2 : Int) < (j : Int) + 1 := by omega
        clear hp1 hp2
        go_region_law (first
          | (refine step_app_int (w.alloc (.cells #[.slice (some ⟨b0, off, none⟩) n c, .slice B m d] 25)) rfl _ _ rfl D _ q done rfl ho ?_ ?_ _ 1 1 [za + zb] rfl (RdI.one_ ?_ ?_) (Below.refl _ _) (by omega) ?_; (focus (repeat (first | exact Below.refl _ _ | assumption | refine bExt ?_ _ | refine bAlloc ?_ _ | refine bDrewN ?_ _ | refine bDrew ?_ | refine bSet ?_ (by first | exact Nat.le_refl _ | omega | (simp; done) | (simp; omega)) _))); (focus (repeat (first | exact Below.refl _ _ | assumption | refine bExt ?_ _ | refine bAlloc ?_ _ | refine bDrewN ?_ _ | refine bDrew ?_ | refine bSet ?_ (by first | exact Nat.le_refl _ | omega | (simp; done) | (simp; omega)) _))); (focus (simp [go_sem])); (focus (simp [go_sem])); intro A2 c2 y2 o2 hg2 hd2))
        all_goals go_wp2
        all_goals
          go_roundw
          case rel => exact ⟨k + 1, A2, c2, y2, by omega, by go_num, rfl, rfl, by rw [HS.out, HV.out]; exact o2⟩
          case measure => simp [intOf]; omega
      · have hkn := Lib.hid (show k = n by omega)
        rw [List.take_of_length_le (by rw [Hl.out]; omega)] at ho
        go_wp2
        go_ret2
        exact RetIB.mk_ ho (base_le (by repeat (first | exact Below.refl _ _ | assumption | refine bExt ?_ _ | refine bAlloc ?_ _ | refine bDrewN ?_ _ | refine bDrew ?_ | refine bSet ?_ (by first | exact Nat.le_refl _ | omega | (simp; done) | (simp; omega)) _))) (by repeat (first | exact Below.refl _ _ | assumption | refine bExt ?_ _ | refine bAlloc ?_ _ | refine bDrewN ?_ _ | refine bDrew ?_ | refine bSet ?_ (by first | exact Nat.le_refl _ | omega | (simp; done) | (simp; omega)) _))
end Go.Proofs.Ytpjaiihkgeabiaa
