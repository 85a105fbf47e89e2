/- CuesOf and CuesBetween of the program and of the reference. Conditions: lengths below 2^40. -/
import Derived.Test.YtpjaiihkgeabiaaDoorCues2
import Derived.Test.YtpjaiihkgeabiaaDoorCues3
import Derived.Test.YtpjaiihkgeabiaaDoorTimes3
import Derived.Test.YtpjaiihkgeabiaaDoorZMisc
import Derived.Test.YtpjaiihkgeabiaaDoorZDoor
set_option linter.unusedVariables false
set_option linter.unusedSimpArgs false
set_option maxRecDepth 100000
namespace Go.Proofs.YtpjaiihkgeabiaaDoor
open Go.RowKit
/-- What a function that hands back cues in new memory and an ok ends with. -/
def Ret3B (e : Nat) (w : World) (l : List T3) (ok : Bool) (E : Ending) (w' : World) : Prop := ∃ A n c x, E = .returned (.tuple #[.slice A n c, .bool ok]) ∧ w' = ext w x ∧ Ow3 e w.heap.size (ext w x) A n c l
theorem Ret3B.mk_ {e : Nat} {w W : World} {base : Nat} {A : Option Addr} {n c : Nat} {l : List T3} {ok : Bool} (ho : Ow3 e base W A n c l) (hbase : w.heap.size ≤ base) (hb : Below w.heap.size w W) : Ret3B e w l ok (.returned (.tuple #[.slice A n c, .bool ok])) W := by
  obtain ⟨x, rfl⟩ := ext_ex hb
  exact ⟨A, n, c, x, rfl, rfl, ho.mono hbase⟩
def cuV (l : List (Int × Int)) (a b c gap : Int) : List T3 := if timedB l a b c gap then cuT l a b c gap else []
theorem cuV_len (l : List (Int × Int)) (a b c gap : Int) : (cuV l a b c gap).length ≤ 160 := by
  unfold cuV; split
  · exact cuT_len (by assumption)
  · simp
def cbB (l : List (Int × Int)) (a b c gap f t : Int) : Bool := timedB l a b c gap && (inB f 0 200000 && inB t 0 200000)
def cbL (T : List T3) (f t : Int) (k : Nat) : List T3 := (T.take k).filter fun q => inB q.1 f t
def cbV (l : List (Int × Int)) (a b c gap f t : Int) : List T3 := if cbB l a b c gap f t then cbL (cuT l a b c gap) f t (cuT l a b c gap).length else []
theorem cbL_yes {T : List T3} {f t : Int} {k : Nat} {x : T3} (h : k < T.length) (e : T[k]?.getD z3 = x) (hi : inB x.1 f t = true) : cbL T f t (k + 1) = cbL T f t k ++ [x] := by
  rw [cbL, take_succ_getD z3 T k h, e, List.filter_append, List.filter_cons_of_pos (by simpa using hi)]; rfl
theorem cbL_no {T : List T3} {f t : Int} {k : Nat} {x : T3} (h : k < T.length) (e : T[k]?.getD z3 = x) (hi : inB x.1 f t = false) : cbL T f t (k + 1) = cbL T f t k := by
  rw [cbL, take_succ_getD z3 T k h, e, List.filter_append, List.filter_cons_of_neg (by simp [hi])]; simp [cbL]
theorem cbV_len (l : List (Int × Int)) (a b c gap f t : Int) : (cbV l a b c gap f t).length ≤ 160 := by
  unfold cbV; split
  · rename_i h
    simp only [cbB, Bool.and_eq_true] at h
    refine Nat.le_trans (List.length_filter_le _ _) ?_
    rw [List.take_length]; exact cuT_len h.1
  · simp
theorem dj_app {A A' B : Option Addr} {e s base n c : Nat} {xs : List Value} {W W' : World} (h : Dj A B) (hB : Ow e s base W B n c xs) (hW : W.heap.size ≤ W'.heap.size) (hd : blkOf A' = blkOf A ∨ blkOf A' = some W'.heap.size) : Dj A' B := by
  intro g hA hBg
  rcases hd with hd | hd
  · exact h g (by rw [← hd]; exact hA) hBg
  · rw [hd] at hA
    cases hA
    have := (hB.blk hBg).2
    omega
theorem specCuesOf_any (w : World) (L : Option Addr) (n cl : Nat) (l : List (Int × Int)) (a b c gap : Int) (hl : RdS w L n l) (hn : n ≤ 1099511627776) :
    Calls Tryd.prog 29 #[.slice L n cl, .agg #[.int .i64 a, .int .i64 b, .int .i64 c, .int .i64 gap]] w (Ret3B 62 w (cuV l a b c gap) (timedB l a b c gap)) := by
  have cG := fun w' h => tiGood_any w' L n cl l a b c gap h hn
  cases ht : timedB l a b c gap
  · rw [show cuV l a b c gap = [] by simp [cuV, ht]]
    rw [ht] at cG
    go_enter Tryd.func29, Tryd.ntmps29
    go_wp2_with (first | (go_at_call 75; ((with_reducible refine (cG _ (hl.below (by repeat (first | exact Below.refl _ _ | assumption | refine bExt ?_ _ | refine bAlloc ?_ _ | refine bDrewN ?_ _ | refine bDrew ?_ | refine bSet ?_ (by first | exact Nat.le_refl _ | omega | (simp; done) | (simp; omega)) _)))).mono ?_); rintro e w' ⟨rfl, x, rfl⟩)))
    go_ret2
    exact Ret3B.mk_ Ow3.nil_ (Nat.le_refl _) (by repeat (first | exact Below.refl _ _ | assumption | refine bExt ?_ _ | refine bAlloc ?_ _ | refine bDrewN ?_ _ | refine bDrew ?_ | refine bSet ?_ (by first | exact Nat.le_refl _ | omega | (simp; done) | (simp; omega)) _))
  · rw [show cuV l a b c gap = cuT l a b c gap by simp [cuV, ht]]
    rw [ht] at cG
    go_enter Tryd.func29, Tryd.ntmps29
    go_wp2_with (first | (go_at_call 75; ((with_reducible refine (cG _ (hl.below (by repeat (first | exact Below.refl _ _ | assumption | refine bExt ?_ _ | refine bAlloc ?_ _ | refine bDrewN ?_ _ | refine bDrew ?_ | refine bSet ?_ (by first | exact Nat.le_refl _ | omega | (simp; done) | (simp; omega)) _)))).mono ?_); rintro e w' ⟨rfl, x, rfl⟩)) | (go_at_call 76; ((with_reducible refine (srCues_any _ _ _ _ _ _ _ _ _ (hl.below (by repeat (first | exact Below.refl _ _ | assumption | refine bExt ?_ _ | refine bAlloc ?_ _ | refine bDrewN ?_ _ | refine bDrew ?_ | refine bSet ?_ (by first | exact Nat.le_refl _ | omega | (simp; done) | (simp; omega)) _))) hn ht).mono ?_); rintro e w' ⟨A1, n1, c1, x1, rfl, rfl, o1⟩)))
    go_ret2
    exact Ret3B.mk_ o1 (base_le (by repeat (first | exact Below.refl _ _ | assumption | refine bExt ?_ _ | refine bAlloc ?_ _ | refine bDrewN ?_ _ | refine bDrew ?_ | refine bSet ?_ (by first | exact Nat.le_refl _ | omega | (simp; done) | (simp; omega)) _))) (by repeat (first | exact Below.refl _ _ | assumption | refine bExt ?_ _ | refine bAlloc ?_ _ | refine bDrewN ?_ _ | refine bDrew ?_ | refine bSet ?_ (by first | exact Nat.le_refl _ | omega | (simp; done) | (simp; omega)) _))
theorem implCuesOf_any (w : World) (L : Option Addr) (n cl : Nat) (l : List (Int × Int)) (a b c gap : Int) (hl : RdS w L n l) (hn : n ≤ 1099511627776) (hnc : n ≤ cl) :
    Calls Tryd.prog 28 #[.slice L n cl, .agg #[.int .i64 a, .int .i64 b, .int .i64 c, .int .i64 gap]] w (Ret3B 62 w (cuV l a b c gap) (timedB l a b c gap)) := by
  have cG := fun w' h => areTimed_any w' L n cl l a b c gap h hn hnc
  cases ht : timedB l a b c gap
  · rw [show cuV l a b c gap = [] by simp [cuV, ht]]
    rw [ht] at cG
    go_enter Tryd.func28, Tryd.ntmps28
    go_wp2_with (first | (go_at_call 73; ((with_reducible refine (cG _ (hl.below (by repeat (first | exact Below.refl _ _ | assumption | refine bExt ?_ _ | refine bAlloc ?_ _ | refine bDrewN ?_ _ | refine bDrew ?_ | refine bSet ?_ (by first | exact Nat.le_refl _ | omega | (simp; done) | (simp; omega)) _)))).mono ?_); rintro e w' ⟨rfl, x, rfl⟩)))
    go_ret2
    exact Ret3B.mk_ Ow3.nil_ (Nat.le_refl _) (by repeat (first | exact Below.refl _ _ | assumption | refine bExt ?_ _ | refine bAlloc ?_ _ | refine bDrewN ?_ _ | refine bDrew ?_ | refine bSet ?_ (by first | exact Nat.le_refl _ | omega | (simp; done) | (simp; omega)) _))
  · rw [show cuV l a b c gap = cuT l a b c gap by simp [cuV, ht]]
    rw [ht] at cG
    go_enter Tryd.func28, Tryd.ntmps28
    go_wp2_with (first | (go_at_call 73; ((with_reducible refine (cG _ (hl.below (by repeat (first | exact Below.refl _ _ | assumption | refine bExt ?_ _ | refine bAlloc ?_ _ | refine bDrewN ?_ _ | refine bDrew ?_ | refine bSet ?_ (by first | exact Nat.le_refl _ | omega | (simp; done) | (simp; omega)) _)))).mono ?_); rintro e w' ⟨rfl, x, rfl⟩)) | (go_at_call 74; ((with_reducible refine (cuesOf_any _ _ _ _ _ _ _ _ _ (hl.below (by repeat (first | exact Below.refl _ _ | assumption | refine bExt ?_ _ | refine bAlloc ?_ _ | refine bDrewN ?_ _ | refine bDrew ?_ | refine bSet ?_ (by first | exact Nat.le_refl _ | omega | (simp; done) | (simp; omega)) _))) hn ht).mono ?_); rintro e w' ⟨A1, n1, c1, x1, rfl, rfl, o1⟩)))
    go_ret2
    exact Ret3B.mk_ o1 (base_le (by repeat (first | exact Below.refl _ _ | assumption | refine bExt ?_ _ | refine bAlloc ?_ _ | refine bDrewN ?_ _ | refine bDrew ?_ | refine bSet ?_ (by first | exact Nat.le_refl _ | omega | (simp; done) | (simp; omega)) _))) (by repeat (first | exact Below.refl _ _ | assumption | refine bExt ?_ _ | refine bAlloc ?_ _ | refine bDrewN ?_ _ | refine bDrew ?_ | refine bSet ?_ (by first | exact Nat.le_refl _ | omega | (simp; done) | (simp; omega)) _))
set_option maxHeartbeats 2000000 in
theorem specCuesBetween_any (w : World) (L : Option Addr) (n cl : Nat) (l : List (Int × Int)) (a b c gap f t : Int) (hl : RdS w L n l) (hn : n ≤ 1099511627776) :
    Calls Tryd.prog 37 #[.slice L n cl, .agg #[.int .i64 a, .int .i64 b, .int .i64 c, .int .i64 gap], .int .i64 f, .int .i64 t] w (Ret3B 62 w (cbV l a b c gap f t) (cbB l a b c gap f t)) := by
  have cG := fun w' h => tiGood_any w' L n cl l a b c gap h hn
  cases hk : cbB l a b c gap f t
  · rw [show cbV l a b c gap f t = [] by simp [cbV, hk]]
    unfold cbB at hk
    go_enter Tryd.func37, Tryd.ntmps37
    go_wp2_with (first | (go_at_call 75; ((with_reducible refine (cG _ (hl.below (by repeat (first | exact Below.refl _ _ | assumption | refine bExt ?_ _ | refine bAlloc ?_ _ | refine bDrewN ?_ _ | refine bDrew ?_ | refine bSet ?_ (by first | exact Nat.le_refl _ | omega | (simp; done) | (simp; omega)) _)))).mono ?_); rintro e w' ⟨rfl, x, rfl⟩)) | (go_at_call 83; ((with_reducible refine (tiClock_any _ _).mono ?_); rintro e w' ⟨rfl, rfl⟩)))
    all_goals first | (go_ret2; exact Ret3B.mk_ Ow3.nil_ (Nat.le_refl _) (by repeat (first | exact Below.refl _ _ | assumption | refine bExt ?_ _ | refine bAlloc ?_ _ | refine bDrewN ?_ _ | refine bDrew ?_ | refine bSet ?_ (by first | exact Nat.le_refl _ | omega | (simp; done) | (simp; omega)) _))) | (exfalso; simp_all)
  · rw [show cbV l a b c gap f t = cbL (cuT l a b c gap) f t (cuT l a b c gap).length by simp [cbV, hk]]
    simp only [cbB, Bool.and_eq_true] at hk
    obtain ⟨ht, hf, htt⟩ := hk
    rw [ht] at cG
    have cC := fun w' h => srCues_any w' L n cl l a b c gap h hn ht
    have hTle := cuT_len ht
    generalize cuT l a b c gap = T at *
    clear ht
    go_enter Tryd.func37, Tryd.ntmps37
    go_wp2_with (first | (go_at_call 75; ((with_reducible refine (cG _ (hl.below (by repeat (first | exact Below.refl _ _ | assumption | refine bExt ?_ _ | refine bAlloc ?_ _ | refine bDrewN ?_ _ | refine bDrew ?_ | refine bSet ?_ (by first | exact Nat.le_refl _ | omega | (simp; done) | (simp; omega)) _)))).mono ?_); rintro e w' ⟨rfl, x, rfl⟩)) | (go_at_call 83; ((with_reducible refine (tiClock_any _ _).mono ?_); rintro e w' ⟨rfl, rfl⟩)) | (go_at_call 76; ((with_reducible refine (cC _ (hl.below (by repeat (first | exact Below.refl _ _ | assumption | refine bExt ?_ _ | refine bAlloc ?_ _ | refine bDrewN ?_ _ | refine bDrew ?_ | refine bSet ?_ (by first | exact Nat.le_refl _ | omega | (simp; done) | (simp; omega)) _)))).mono ?_); rintro e w' ⟨A1, n1, c1, x1, rfl, rfl, o1⟩)))
    have HTl := Lib.hid o1.len
    have hBR : Below w.heap.size w (ext (w.alloc (.cells #[.int .i64 a, .int .i64 b, .int .i64 c, .int .i64 gap] 53)) x) := by repeat (first | exact Below.refl _ _ | assumption | refine bExt ?_ _ | refine bAlloc ?_ _ | refine bDrewN ?_ _ | refine bDrew ?_ | refine bSet ?_ (by first | exact Nat.le_refl _ | omega | (simp; done) | (simp; omega)) _)
    have HBR := Lib.hid hBR
    have oT0 := o1.mono (Nat.le_refl _)
    clear o1 hBR cG cC
    generalize (ext (w.alloc (.cells #[.int .i64 a, .int .i64 b, .int .i64 c, .int .i64 gap] 53)) x) = R at *
    go_loopw [10, 31] (fun v i wr => ∃ (k z : Nat) (D : Option Addr) (q : Nat) (y : World), (k ≤ n1 ∧ z ≤ k) ∧ i = .int .i64 k ∧ v = .slice D z q ∧ wr = ext R y ∧ Ow3 62 R.heap.size (ext R y) D z q (cbL T f t k) ∧ Ow3 62 R.heap.size (ext R y) A1 n1 c1 T ∧ Dj D A1) (fun _ i _ => n1 - (intOf i).toNat)
    case atStart => exact ⟨0, 0, none, 0, x1, by omega, rfl, rfl, rfl, Ow3.nil_, oT0, Dj.nil_⟩
    case round =>
      obtain ⟨k, z, D, q, y, ⟨hk, hzk⟩, rfl, rfl, rfl, oD, oT, hdj⟩ := hrel
      by_cases hlt : k < n1
      · obtain ⟨g, rfl, hg1, hg2⟩ := oT.form_ (by omega)
        obtain ⟨hc0, hc1, hc2⟩ := oT.cell_ k hlt
        have hkT : k < T.length := by rw [HTl.out]; exact hlt
        have HY := Lib.hid (fun h => cbL_yes (f := f) (t := t) hkT rfl h)
        have HN := Lib.hid (fun h => cbL_no (f := f) (t := t) hkT rfl h)
        have hn160 : n1 ≤ 160 := by rw [← HTl.out]; exact hTle
        clear hkT
        generalize T[k]?.getD z3 = x at *
        have cI := fun w' => l1In_any x.1 f t w'
        cases hin : inB x.1 f t
        · rw [hin] at cI
          have HS := Lib.hid (HN.out hin)
          clear hin HY HN
          go_wp2_with (first | (go_at_call 84; ((with_reducible refine (cI _).mono ?_); rintro e w' ⟨rfl, rfl⟩)))
          obtain ⟨y', hy⟩ := ext_ex (show Below R.heap.size R ((ext R y).alloc (.cells #[.int .i64 x.1, .int .i64 x.2.1, .int .i64 x.2.2] 62)) from by repeat (first | exact Below.refl _ _ | assumption | refine bExt ?_ _ | refine bAlloc ?_ _ | refine bDrewN ?_ _ | refine bDrew ?_ | refine bSet ?_ (by first | exact Nat.le_refl _ | omega | (simp; done) | (simp; omega)) _))
          have oD' := oD.below (bAlloc (Below.refl _ _) (.cells #[.int .i64 x.1, .int .i64 x.2.1, .int .i64 x.2.2] 62))
          have oT' := oT.below (bAlloc (Below.refl _ _) (.cells #[.int .i64 x.1, .int .i64 x.2.1, .int .i64 x.2.2] 62))
          rw [hy] at oD' oT'
          go_roundw
          case rel => exact ⟨k + 1, z, D, q, y', by omega, by go_num, rfl, hy, by rw [HS.out]; exact oD', oT', hdj⟩
          case measure => simp [intOf]; omega
        · rw [hin] at cI
          have HS := Lib.hid (HY.out hin)
          clear hin HY HN
          go_wp2_with (first | (go_at_call 84; ((with_reducible refine (cI _).mono ?_); rintro e w' ⟨rfl, rfl⟩)) | (at_builtin; (refine wpl_app_cue R rfl _ _ rfl D z q (cbL T f t k) rfl oD ?_ ?_ _ 1 1 [x] rfl (Rd3.one_ ?_ ?_ ?_ ?_) (Below.refl _ _) (by omega) ?_); (focus (repeat (first | exact Below.refl _ _ | assumption | refine bExt ?_ _ | refine bAlloc ?_ _ | refine bDrewN ?_ _ | refine bDrew ?_ | refine bSet ?_ (by first | exact Nat.le_refl _ | omega | (simp; done) | (simp; omega)) _))); (focus (repeat (first | exact Below.refl _ _ | assumption | refine bExt ?_ _ | refine bAlloc ?_ _ | refine bDrewN ?_ _ | refine bDrew ?_ | refine bSet ?_ (by first | exact Nat.le_refl _ | omega | (simp; done) | (simp; omega)) _))); (focus (simp [go_sem])); (focus (simp [go_sem])); (focus (simp [go_sem])); (focus (simp [go_sem])); intro D' q' y1 oD' hga hda))
          have oT2 := (oT.below (bAlloc (bAlloc (Below.refl _ _) (.cells #[.int .i64 x.1, .int .i64 x.2.1, .int .i64 x.2.2] 62)) (.cells #[.int .i64 x.1, .int .i64 x.2.1, .int .i64 x.2.2] 62))).kept hga hdj.symm.ne
          have hdj' := dj_app hdj oT (by first | (simp; done) | (simp; omega)) hda
          go_roundw
          case rel => exact ⟨k + 1, z + 1, D', q', y1, by omega, by go_num, rfl, rfl, by rw [HS.out]; exact oD', oT2, hdj'⟩
          case measure => simp [intOf]; omega
      · have hkn := Lib.hid (show k = n1 by omega)
        rw [hkn.out] at oD
        go_wp2
        go_ret2
        rw [HTl.out]
        exact Ret3B.mk_ oD HBR.out.size (HBR.out.trans ((ext_below _ _).mono HBR.out.size))
set_option maxHeartbeats 2000000 in
theorem implCuesBetween_any (w : World) (L : Option Addr) (n cl : Nat) (l : List (Int × Int)) (a b c gap f t : Int) (hl : RdS w L n l) (hn : n ≤ 1099511627776) (hnc : n ≤ cl) :
    Calls Tryd.prog 36 #[.slice L n cl, .agg #[.int .i64 a, .int .i64 b, .int .i64 c, .int .i64 gap], .int .i64 f, .int .i64 t] w (Ret3B 62 w (cbV l a b c gap f t) (cbB l a b c gap f t)) := by
  have cG := fun w' h => areTimed_any w' L n cl l a b c gap h hn hnc
  cases hk : cbB l a b c gap f t
  · rw [show cbV l a b c gap f t = [] by simp [cbV, hk]]
    unfold cbB at hk
    go_enter Tryd.func36, Tryd.ntmps36
    go_wp2_with (first | (go_at_call 73; ((with_reducible refine (cG _ (hl.below (by repeat (first | exact Below.refl _ _ | assumption | refine bExt ?_ _ | refine bAlloc ?_ _ | refine bDrewN ?_ _ | refine bDrew ?_ | refine bSet ?_ (by first | exact Nat.le_refl _ | omega | (simp; done) | (simp; omega)) _)))).mono ?_); rintro e w' ⟨rfl, x, rfl⟩)) | (go_at_call 79; ((with_reducible refine (isDayTime_any _ _).mono ?_); rintro e w' ⟨rfl, rfl⟩)))
    all_goals first | (go_ret2; exact Ret3B.mk_ Ow3.nil_ (Nat.le_refl _) (by repeat (first | exact Below.refl _ _ | assumption | refine bExt ?_ _ | refine bAlloc ?_ _ | refine bDrewN ?_ _ | refine bDrew ?_ | refine bSet ?_ (by first | exact Nat.le_refl _ | omega | (simp; done) | (simp; omega)) _))) | (exfalso; simp_all)
  · rw [show cbV l a b c gap f t = cbL (cuT l a b c gap) f t (cuT l a b c gap).length by simp [cbV, hk]]
    simp only [cbB, Bool.and_eq_true] at hk
    obtain ⟨ht, hf, htt⟩ := hk
    rw [ht] at cG
    have cC := fun w' h => cuesOf_any w' L n cl l a b c gap h hn ht
    have hTle := cuT_len ht
    generalize cuT l a b c gap = T at *
    clear ht
    go_enter Tryd.func36, Tryd.ntmps36
    go_wp2_with (first | (go_at_call 73; ((with_reducible refine (cG _ (hl.below (by repeat (first | exact Below.refl _ _ | assumption | refine bExt ?_ _ | refine bAlloc ?_ _ | refine bDrewN ?_ _ | refine bDrew ?_ | refine bSet ?_ (by first | exact Nat.le_refl _ | omega | (simp; done) | (simp; omega)) _)))).mono ?_); rintro e w' ⟨rfl, x, rfl⟩)) | (go_at_call 79; ((with_reducible refine (isDayTime_any _ _).mono ?_); rintro e w' ⟨rfl, rfl⟩)) | (go_at_call 74; ((with_reducible refine (cC _ (hl.below (by repeat (first | exact Below.refl _ _ | assumption | refine bExt ?_ _ | refine bAlloc ?_ _ | refine bDrewN ?_ _ | refine bDrew ?_ | refine bSet ?_ (by first | exact Nat.le_refl _ | omega | (simp; done) | (simp; omega)) _)))).mono ?_); rintro e w' ⟨A1, n1, c1, x1, rfl, rfl, o1⟩)))
    have HTl := Lib.hid o1.len
    have hBR : Below w.heap.size w (ext (w.alloc (.cells #[.int .i64 a, .int .i64 b, .int .i64 c, .int .i64 gap] 53)) x) := by repeat (first | exact Below.refl _ _ | assumption | refine bExt ?_ _ | refine bAlloc ?_ _ | refine bDrewN ?_ _ | refine bDrew ?_ | refine bSet ?_ (by first | exact Nat.le_refl _ | omega | (simp; done) | (simp; omega)) _)
    have HBR := Lib.hid hBR
    have oa := (OwC.lit_ (Below.refl _ (ext (w.alloc (.cells #[.int .i64 a, .int .i64 b, .int .i64 c, .int .i64 gap] 53)) x)) [] (by simp [maxLen]) #[] rfl).below (bExt (Below.refl _ _) x1)
    have hdaT : Dj (some ⟨(ext (w.alloc (.cells #[.int .i64 a, .int .i64 b, .int .i64 c, .int .i64 gap] 53)) x).heap.size, 0, none⟩) A1 := fun g h h2 => by have := (o1.blk h2).1; simp [blkOf] at h this; omega
    obtain ⟨y0, hy0⟩ := ext_ex (show Below (ext (w.alloc (.cells #[.int .i64 a, .int .i64 b, .int .i64 c, .int .i64 gap] 53)) x).heap.size (ext (w.alloc (.cells #[.int .i64 a, .int .i64 b, .int .i64 c, .int .i64 gap] 53)) x) (ext ((ext (w.alloc (.cells #[.int .i64 a, .int .i64 b, .int .i64 c, .int .i64 gap] 53)) x).alloc (.cells #[] 62)) x1) from by repeat (first | exact Below.refl _ _ | assumption | refine bExt ?_ _ | refine bAlloc ?_ _ | refine bDrewN ?_ _ | refine bDrew ?_ | refine bSet ?_ (by first | exact Nat.le_refl _ | omega | (simp; done) | (simp; omega)) _))
    have oT0 := o1.mono (base_le (show Below (ext (w.alloc (.cells #[.int .i64 a, .int .i64 b, .int .i64 c, .int .i64 gap] 53)) x).heap.size (ext (w.alloc (.cells #[.int .i64 a, .int .i64 b, .int .i64 c, .int .i64 gap] 53)) x) ((ext (w.alloc (.cells #[.int .i64 a, .int .i64 b, .int .i64 c, .int .i64 gap] 53)) x).alloc (.cells #[] 62)) from by repeat (first | exact Below.refl _ _ | assumption | refine bExt ?_ _ | refine bAlloc ?_ _ | refine bDrewN ?_ _ | refine bDrew ?_ | refine bSet ?_ (by first | exact Nat.le_refl _ | omega | (simp; done) | (simp; omega)) _)))
    rw [hy0] at oa oT0 ⊢
    clear o1 hBR cG cC
    generalize (ext (w.alloc (.cells #[.int .i64 a, .int .i64 b, .int .i64 c, .int .i64 gap] 53)) x) = R at *
    go_loopw [10, 32] (fun v i wr => ∃ (k z : Nat) (D : Option Addr) (q : Nat) (y : World), (k ≤ n1 ∧ z ≤ k) ∧ i = .int .i64 k ∧ v = .slice D z q ∧ wr = ext R y ∧ Ow3 62 R.heap.size (ext R y) D z q (cbL T f t k) ∧ Ow3 62 R.heap.size (ext R y) A1 n1 c1 T ∧ Dj D A1) (fun _ i _ => n1 - (intOf i).toNat)
    case atStart => exact ⟨0, 0, _, 0, y0, by omega, rfl, rfl, rfl, oa, oT0, hdaT⟩
    case round =>
      obtain ⟨k, z, D, q, y, ⟨hk, hzk⟩, rfl, rfl, rfl, oD, oT, hdj⟩ := hrel
      by_cases hlt : k < n1
      · obtain ⟨g, rfl, hg1, hg2⟩ := oT.form_ (by omega)
        obtain ⟨hc0, hc1, hc2⟩ := oT.cell_ k hlt
        have hkT : k < T.length := by rw [HTl.out]; exact hlt
        have HY := Lib.hid (fun h => cbL_yes (f := f) (t := t) hkT rfl h)
        have HN := Lib.hid (fun h => cbL_no (f := f) (t := t) hkT rfl h)
        have hn160 : n1 ≤ 160 := by rw [← HTl.out]; exact hTle
        clear hkT
        generalize T[k]?.getD z3 = x at *
        have cI := fun w' => within_any x.1 f t w'
        cases hin : inB x.1 f t
        · rw [hin] at cI
          have HS := Lib.hid (HN.out hin)
          clear hin HY HN
          go_wp2_with (first | (go_at_call 80; ((with_reducible refine (cI _).mono ?_); rintro e w' ⟨rfl, rfl⟩)))
          obtain ⟨y', hy⟩ := ext_ex (show Below R.heap.size R ((ext R y).alloc (.cells #[.int .i64 x.1, .int .i64 x.2.1, .int .i64 x.2.2] 62)) from by repeat (first | exact Below.refl _ _ | assumption | refine bExt ?_ _ | refine bAlloc ?_ _ | refine bDrewN ?_ _ | refine bDrew ?_ | refine bSet ?_ (by first | exact Nat.le_refl _ | omega | (simp; done) | (simp; omega)) _))
          have oD' := oD.below (bAlloc (Below.refl _ _) (.cells #[.int .i64 x.1, .int .i64 x.2.1, .int .i64 x.2.2] 62))
          have oT' := oT.below (bAlloc (Below.refl _ _) (.cells #[.int .i64 x.1, .int .i64 x.2.1, .int .i64 x.2.2] 62))
          rw [hy] at oD' oT'
          go_roundw
          case rel => exact ⟨k + 1, z, D, q, y', by omega, by go_num, rfl, hy, by rw [HS.out]; exact oD', oT', hdj⟩
          case measure => simp [intOf]; omega
        · rw [hin] at cI
          have HS := Lib.hid (HY.out hin)
          clear hin HY HN
          go_wp2_with (first | (go_at_call 80; ((with_reducible refine (cI _).mono ?_); rintro e w' ⟨rfl, rfl⟩)) | (at_builtin; (refine wpl_app_cue R rfl _ _ rfl D z q (cbL T f t k) rfl oD ?_ ?_ _ 1 1 [x] rfl (Rd3.one_ ?_ ?_ ?_ ?_) (Below.refl _ _) (by omega) ?_); (focus (repeat (first | exact Below.refl _ _ | assumption | refine bExt ?_ _ | refine bAlloc ?_ _ | refine bDrewN ?_ _ | refine bDrew ?_ | refine bSet ?_ (by first | exact Nat.le_refl _ | omega | (simp; done) | (simp; omega)) _))); (focus (repeat (first | exact Below.refl _ _ | assumption | refine bExt ?_ _ | refine bAlloc ?_ _ | refine bDrewN ?_ _ | refine bDrew ?_ | refine bSet ?_ (by first | exact Nat.le_refl _ | omega | (simp; done) | (simp; omega)) _))); (focus (simp [go_sem])); (focus (simp [go_sem])); (focus (simp [go_sem])); (focus (simp [go_sem])); intro D' q' y1 oD' hga hda))
          have oT2 := (oT.below (bAlloc (bAlloc (Below.refl _ _) (.cells #[.int .i64 x.1, .int .i64 x.2.1, .int .i64 x.2.2] 62)) (.cells #[.int .i64 x.1, .int .i64 x.2.1, .int .i64 x.2.2] 62))).kept hga hdj.symm.ne
          have hdj' := dj_app hdj oT (by first | (simp; done) | (simp; omega)) hda
          go_roundw
          case rel => exact ⟨k + 1, z + 1, D', q', y1, by omega, by go_num, rfl, rfl, by rw [HS.out]; exact oD', oT2, hdj'⟩
          case measure => simp [intOf]; omega
      · have hkn := Lib.hid (show k = n1 by omega)
        rw [hkn.out] at oD
        go_wp2
        go_ret2
        rw [HTl.out]
        exact Ret3B.mk_ oD HBR.out.size (HBR.out.trans ((ext_below _ _).mono HBR.out.size))
end Go.Proofs.YtpjaiihkgeabiaaDoor
namespace Go.Proofs.YtpjaiihkgeabiaaDoor
open Go.RowKit
def shStep (t : Int) (s : T3 × Bool) (q : T3) : T3 × Bool := if q.1 ≤ t then (q, true) else s
def shF (T : List T3) (t : Int) (k : Nat) : T3 × Bool := (T.take k).foldl (shStep t) (z3, false)
theorem shF_succ (T : List T3) (t : Int) (k : Nat) (h : k < T.length) : shF T t (k + 1) = shStep t (shF T t k) (T[k]?.getD z3) := by
  rw [shF, take_succ_getD z3 T k h, List.foldl_append]; rfl
theorem shF_kind {T : List T3} (hT : ∀ q ∈ T, cueOk q) (t : Int) (k : Nat) : (shF T t k).2 = decide (0 < (shF T t k).1.2.1) ∧ 0 ≤ (shF T t k).1.2.1 ∧ (shF T t k).1.2.1 ≤ 4 := by
  have gen : ∀ (M : List T3) (s : T3 × Bool), (∀ q ∈ M, cueOk q) → (s.2 = decide (0 < s.1.2.1) ∧ 0 ≤ s.1.2.1 ∧ s.1.2.1 ≤ 4) → ((M.foldl (shStep t) s).2 = decide (0 < (M.foldl (shStep t) s).1.2.1) ∧ 0 ≤ (M.foldl (shStep t) s).1.2.1 ∧ (M.foldl (shStep t) s).1.2.1 ≤ 4) := by
    intro M
    induction M with
    | nil => intro s _ h; exact h
    | cons q r ih =>
      intro s hM h
      refine ih _ (fun x hx => hM x (List.mem_cons_of_mem _ hx)) ?_
      have hq := (hM q List.mem_cons_self).2
      unfold shStep; split
      · exact ⟨(decide_eq_true (show 0 < q.2.1 by omega)).symm, by show 0 ≤ q.2.1; omega, hq.2⟩
      · exact h
  exact gen _ _ (fun q hq => hT q (List.mem_of_mem_take hq)) ⟨rfl, by decide, by decide⟩
def shG (l : List (Int × Int)) (a b c gap t : Int) : Bool := timedB l a b c gap && inB t 0 200000
def shP (l : List (Int × Int)) (a b c gap t : Int) : T3 × Bool := if shG l a b c gap t then shF (cuT l a b c gap) t (cuT l a b c gap).length else (z3, false)
def RetCB (w : World) (v : T3) (ok : Bool) (e : Ending) (w' : World) : Prop := ∃ x, e = .returned (.tuple #[.agg #[.int .i64 v.1, .int .i64 v.2.1, .int .i64 v.2.2], .bool ok]) ∧ w' = ext w x
theorem RetCB.mk_ {w W : World} {v : T3} {ok ok' : Bool} (hk : ok = ok') (hb : Below w.heap.size w W) : RetCB w v ok' (.returned (.tuple #[.agg #[.int .i64 v.1, .int .i64 v.2.1, .int .i64 v.2.2], .bool ok])) W := by
  obtain ⟨x, rfl⟩ := ext_ex hb
  exact ⟨x, by rw [hk], rfl⟩
set_option maxHeartbeats 4000000 in
theorem specShownAt_any (w : World) (L : Option Addr) (n cl : Nat) (l : List (Int × Int)) (a b c gap t : Int) (hl : RdS w L n l) (hn : n ≤ 1099511627776) :
    Calls Tryd.prog 40 #[.slice L n cl, .agg #[.int .i64 a, .int .i64 b, .int .i64 c, .int .i64 gap], .int .i64 t] w (RetCB w (shP l a b c gap t).1 (shP l a b c gap t).2) := by
  have cG := fun w' h => tiGood_any w' L n cl l a b c gap h hn
  cases hk : shG l a b c gap t
  · rw [show shP l a b c gap t = (z3, false) by simp [shP, hk]]
    unfold shG at hk
    go_enter Tryd.func40, Tryd.ntmps40
    go_wp2_with (first | (go_at_call 75; ((with_reducible refine (cG _ (hl.below (by repeat (first | exact Below.refl _ _ | assumption | refine bExt ?_ _ | refine bAlloc ?_ _ | refine bDrewN ?_ _ | refine bDrew ?_ | refine bSet ?_ (by first | exact Nat.le_refl _ | omega | (simp; done) | (simp; omega)) _)))).mono ?_); rintro e w' ⟨rfl, x, rfl⟩)) | (go_at_call 83; ((with_reducible refine (tiClock_any _ _).mono ?_); rintro e w' ⟨rfl, rfl⟩)))
    all_goals first | exact bodyPost_ret (v := .tuple #[.agg #[.int .i64 0, .int .i64 0, .int .i64 0], .bool false]) (by simp [results, Tryd.results40, go_sem]) rfl (RetCB.mk_ (v := z3) rfl (by repeat (first | exact Below.refl _ _ | assumption | refine bExt ?_ _ | refine bAlloc ?_ _ | refine bDrewN ?_ _ | refine bDrew ?_ | refine bSet ?_ (by first | exact Nat.le_refl _ | omega | (simp; done) | (simp; omega)) _))) | (exfalso; simp_all)
  · rw [show shP l a b c gap t = shF (cuT l a b c gap) t (cuT l a b c gap).length by simp [shP, hk]]
    simp only [shG, Bool.and_eq_true] at hk
    obtain ⟨ht, htt⟩ := hk
    rw [ht] at cG
    have cC := fun w' h => srCues_any w' L n cl l a b c gap h hn ht
    have HK := Lib.hid (fun k => shF_kind (cuT_ok ht) t k)
    have hTle := cuT_len ht
    generalize cuT l a b c gap = T at *
    clear ht
    go_enter Tryd.func40, Tryd.ntmps40
    go_wp2_with (first | (go_at_call 75; ((with_reducible refine (cG _ (hl.below (by repeat (first | exact Below.refl _ _ | assumption | refine bExt ?_ _ | refine bAlloc ?_ _ | refine bDrewN ?_ _ | refine bDrew ?_ | refine bSet ?_ (by first | exact Nat.le_refl _ | omega | (simp; done) | (simp; omega)) _)))).mono ?_); rintro e w' ⟨rfl, x, rfl⟩)) | (go_at_call 83; ((with_reducible refine (tiClock_any _ _).mono ?_); rintro e w' ⟨rfl, rfl⟩)) | (go_at_call 76; ((with_reducible refine (cC _ (hl.below (by repeat (first | exact Below.refl _ _ | assumption | refine bExt ?_ _ | refine bAlloc ?_ _ | refine bDrewN ?_ _ | refine bDrew ?_ | refine bSet ?_ (by first | exact Nat.le_refl _ | omega | (simp; done) | (simp; omega)) _)))).mono ?_); rintro e w' ⟨A1, n1, c1, x1, rfl, rfl, o1⟩)))
    have HTl := Lib.hid o1.len
    have o8 := (OwC.lit_ (Below.refl _ (ext ((w.alloc (.cells #[.int .i64 a, .int .i64 b, .int .i64 c, .int .i64 gap] 53)).alloc (.cells #[.int .i64 0, .int .i64 0, .int .i64 0] 62)) x)) [z3] (by simp [maxLen]) #[.int .i64 0, .int .i64 0, .int .i64 0] rfl).below (bExt (Below.refl _ _) x1)
    have oT0 : Ow3 62 ((ext ((w.alloc (.cells #[.int .i64 a, .int .i64 b, .int .i64 c, .int .i64 gap] 53)).alloc (.cells #[.int .i64 0, .int .i64 0, .int .i64 0] 62)) x).heap.size + 1) (ext ((ext ((w.alloc (.cells #[.int .i64 a, .int .i64 b, .int .i64 c, .int .i64 gap] 53)).alloc (.cells #[.int .i64 0, .int .i64 0, .int .i64 0] 62)) x).alloc (.cells #[.int .i64 0, .int .i64 0, .int .i64 0] 62)) x1) A1 n1 c1 T := o1.mono (by simp)
    have hBR : Below w.heap.size w (ext ((w.alloc (.cells #[.int .i64 a, .int .i64 b, .int .i64 c, .int .i64 gap] 53)).alloc (.cells #[.int .i64 0, .int .i64 0, .int .i64 0] 62)) x) := by repeat (first | exact Below.refl _ _ | assumption | refine bExt ?_ _ | refine bAlloc ?_ _ | refine bDrewN ?_ _ | refine bDrew ?_ | refine bSet ?_ (by first | exact Nat.le_refl _ | omega | (simp; done) | (simp; omega)) _)
    have hrc : ∀ i u, (((w.alloc (.cells #[.int .i64 a, .int .i64 b, .int .i64 c, .int .i64 gap] 53)).alloc (.cells #[.int .i64 0, .int .i64 0, .int .i64 0] 62))).cell? ⟨w.heap.size + 1, i, none⟩ = some u → (ext ((w.alloc (.cells #[.int .i64 a, .int .i64 b, .int .i64 c, .int .i64 gap] 53)).alloc (.cells #[.int .i64 0, .int .i64 0, .int .i64 0] 62)) x).cell? ⟨w.heap.size + 1, i, none⟩ = some u := fun i u h => by rw [ext_cell _ _ _ _ _ (by simp)]; exact h
    have hr0 := Lib.hid (hrc 0 (.int .i64 0) (by simp [go_sem]))
    have hr1 := Lib.hid (hrc 1 (.int .i64 0) (by simp [go_sem]))
    have hr2 := Lib.hid (hrc 2 (.int .i64 0) (by simp [go_sem]))
    have hrf : ∀ i, (ext ((w.alloc (.cells #[.int .i64 a, .int .i64 b, .int .i64 c, .int .i64 gap] 53)).alloc (.cells #[.int .i64 0, .int .i64 0, .int .i64 0] 62)) x).frozen? ⟨w.heap.size + 1, i, none⟩ = false := fun i => by rw [ext_frozen _ _ _ _ _ (by simp)]; simp [go_sem]
    have HRF := Lib.hid hrf
    have hgr : w.heap.size + 1 < (ext ((w.alloc (.cells #[.int .i64 a, .int .i64 b, .int .i64 c, .int .i64 gap] 53)).alloc (.cells #[.int .i64 0, .int .i64 0, .int .i64 0] 62)) x).heap.size := by have := ext_le ((w.alloc (.cells #[.int .i64 a, .int .i64 b, .int .i64 c, .int .i64 gap] 53)).alloc (.cells #[.int .i64 0, .int .i64 0, .int .i64 0] 62)) x; simp at this; omega
    have HBR := Lib.hid hBR
    have HB0 := Lib.hid (show Below (ext ((w.alloc (.cells #[.int .i64 a, .int .i64 b, .int .i64 c, .int .i64 gap] 53)).alloc (.cells #[.int .i64 0, .int .i64 0, .int .i64 0] 62)) x).heap.size (ext ((w.alloc (.cells #[.int .i64 a, .int .i64 b, .int .i64 c, .int .i64 gap] 53)).alloc (.cells #[.int .i64 0, .int .i64 0, .int .i64 0] 62)) x) (ext ((ext ((w.alloc (.cells #[.int .i64 a, .int .i64 b, .int .i64 c, .int .i64 gap] 53)).alloc (.cells #[.int .i64 0, .int .i64 0, .int .i64 0] 62)) x).alloc (.cells #[.int .i64 0, .int .i64 0, .int .i64 0] 62)) x1) from by repeat (first | exact Below.refl _ _ | assumption | refine bExt ?_ _ | refine bAlloc ?_ _ | refine bDrewN ?_ _ | refine bDrew ?_ | refine bSet ?_ (by first | exact Nat.le_refl _ | omega | (simp; done) | (simp; omega)) _))
    clear hrc hrf hBR o1 cG cC
    generalize (ext ((w.alloc (.cells #[.int .i64 a, .int .i64 b, .int .i64 c, .int .i64 gap] 53)).alloc (.cells #[.int .i64 0, .int .i64 0, .int .i64 0] 62)) x) = R0 at *
    generalize ext (R0.alloc (.cells #[.int .i64 0, .int .i64 0, .int .i64 0] 62)) x1 = W8 at *
    have h8l : R0.heap.size < W8.heap.size := (o8.blk (g := R0.heap.size) rfl).2
    go_loopw [26] (fun i wr => ∃ k : Nat, k ≤ n1 ∧ i = .int .i64 k ∧ Hid (Below R0.heap.size R0 wr) ∧ Ow3 62 R0.heap.size wr (some ⟨R0.heap.size, 0, none⟩) 1 1 [(shF T t k).1] ∧ Ow3 62 (R0.heap.size + 1) wr A1 n1 c1 T) (fun i _ => n1 - (intOf i).toNat)
    case atStart => exact ⟨0, by omega, rfl,  HB0, o8, oT0⟩
    case round =>
      clear o8 oT0 HB0
      obtain ⟨k, hk, rfl,  HB, o8, oT⟩ := hrel
      have h80 := o8.cell_ 0 (by omega)
      have h8f := o8.frozen_ 0
      have h8f1 := o8.frozen_ 1
      have h8f2 := o8.frozen_ 2
      simp only [Nat.zero_mul, Nat.zero_add, List.getElem?_cons_zero, Option.getD_some] at h80
      obtain ⟨h80, h81, h82⟩ := h80
      have h8l := (o8.blk (g := R0.heap.size) rfl).2
      have hnA : blkOf A1 = none ∨ blkOf A1 ≠ some R0.heap.size := by
        cases hA : blkOf A1 with
        | none => exact .inl rfl
        | some g => exact .inr (fun e => by injection e with e; have := (oT.blk hA).1; omega)
      have hn160 : n1 ≤ 160 := by rw [← HTl.out]; exact hTle
      by_cases hlt : k < n1
      · obtain ⟨g, rfl, hg1, hg2⟩ := oT.form_ (by omega)
        obtain ⟨hc0, hc1, hc2⟩ := oT.cell_ k hlt
        have HS := Lib.hid (shF_succ T t k (by rw [HTl.out]; exact hlt))
        generalize T[k]?.getD z3 = x at *
        generalize shF T t k = F0 at *
        obtain ⟨fv, fb⟩ := F0
        have oT1 := oT.below (bAlloc (Below.refl _ _) (.cells #[.int .i64 x.1, .int .i64 x.2.1, .int .i64 x.2.2] 62))
        have o81 := o8.below (bAlloc (Below.refl _ _) (.cells #[.int .i64 x.1, .int .i64 x.2.1, .int .i64 x.2.2] 62))
        by_cases hx : x.1 ≤ t
        · have HV := Lib.hid (HS.out.trans (if_pos hx))
          have hst := o8.storedC 0 (by omega) x
          have Hst := Lib.hid hst
          clear hst
          go_wp2
          go_roundw
          case rel =>
            have hB1 := HB.out.grown Hst.out.2 HB.out.size (fun k hk => by injection hk with hk; omega)
            exact ⟨k + 1, by omega, by go_num,  hB1.trans ((bAlloc (Below.refl _ _) (.cells #[.int .i64 x.1, .int .i64 x.2.1, .int .i64 x.2.2] 62)).mono hB1.size), by rw [HV.out]; exact Hst.out.1.below (bAlloc (Below.refl _ _) (.cells #[.int .i64 x.1, .int .i64 x.2.1, .int .i64 x.2.2] 62)), (oT.kept Hst.out.2 hnA).below (bAlloc (Below.refl _ _) (.cells #[.int .i64 x.1, .int .i64 x.2.1, .int .i64 x.2.2] 62))⟩
          case measure => simp [intOf]; omega
        · have HV := Lib.hid (HS.out.trans (if_neg hx))
          go_wp2
          go_roundw
          case rel => exact ⟨k + 1, by omega, by go_num,  HB.out.trans ((bAlloc (Below.refl _ _) (.cells #[.int .i64 x.1, .int .i64 x.2.1, .int .i64 x.2.2] 62)).mono HB.out.size), by rw [HV.out]; exact o81, oT1⟩
          case measure => simp [intOf]; omega
      · have hkn := Lib.hid (show k = n1 by omega)
        have q0 := (HB.out.cell (p := ⟨w.heap.size + 1, 0, none⟩) hgr).trans hr0.out
        have q1 := (HB.out.cell (p := ⟨w.heap.size + 1, 1, none⟩) hgr).trans hr1.out
        have q2 := (HB.out.cell (p := ⟨w.heap.size + 1, 2, none⟩) hgr).trans hr2.out
        have p0 := (HB.out.frozen (p := ⟨w.heap.size + 1, 0, none⟩) hgr).trans (HRF.out 0)
        have p1 := (HB.out.frozen (p := ⟨w.heap.size + 1, 1, none⟩) hgr).trans (HRF.out 1)
        have p2 := (HB.out.frozen (p := ⟨w.heap.size + 1, 2, none⟩) hgr).trans (HRF.out 2)
        have HKk := HK.out k
        have hkf : (shF T t T.length) = (shF T t k) := by rw [HTl.out, hkn.out]
        obtain ⟨F0, hF0⟩ : ∃ F0, shF T t k = F0 := ⟨_, rfl⟩
        rw [hF0] at hkf HKk h80 h81 h82
        obtain ⟨fv, fb⟩ := F0
        have HKF := Lib.hid hkf
        simp only at HKk h80 h81 h82
        have HKk := Lib.hid HKk
        clear hF0 o8
        have hBw := HBR.out.trans (HB.out.mono HBR.out.size)
        have HBw := Lib.hid hBw
        clear hkf hBw
        go_wp2
        go_region
        all_goals
          go_wp2
          exact bodyPost_ret (v := .tuple #[.agg #[.int .i64 fv.1, .int .i64 fv.2.1, .int .i64 fv.2.2], .bool (decide (0 < fv.2.1))]) (by simp [results, Tryd.results40, go_sem, q0, q1, q2]) rfl (by rw [HKF.out]; exact RetCB.mk_ HKk.out.1.symm (by have := HBw.out; repeat (first | exact Below.refl _ _ | assumption | refine bExt ?_ _ | refine bAlloc ?_ _ | refine bDrewN ?_ _ | refine bDrew ?_ | refine bSet ?_ (by first | exact Nat.le_refl _ | omega | (simp; done) | (simp; omega)) _)))
set_option maxHeartbeats 4000000 in
theorem implShownAt_any (w : World) (L : Option Addr) (n cl : Nat) (l : List (Int × Int)) (a b c gap t : Int) (hl : RdS w L n l) (hn : n ≤ 1099511627776) (hnc : n ≤ cl) :
    Calls Tryd.prog 39 #[.slice L n cl, .agg #[.int .i64 a, .int .i64 b, .int .i64 c, .int .i64 gap], .int .i64 t] w (RetCB w (shP l a b c gap t).1 (shP l a b c gap t).2) := by
  have cG := fun w' h => areTimed_any w' L n cl l a b c gap h hn hnc
  cases hk : shG l a b c gap t
  · rw [show shP l a b c gap t = (z3, false) by simp [shP, hk]]
    unfold shG at hk
    go_enter Tryd.func39, Tryd.ntmps39
    go_wp2_with (first | (go_at_call 73; ((with_reducible refine (cG _ (hl.below (by repeat (first | exact Below.refl _ _ | assumption | refine bExt ?_ _ | refine bAlloc ?_ _ | refine bDrewN ?_ _ | refine bDrew ?_ | refine bSet ?_ (by first | exact Nat.le_refl _ | omega | (simp; done) | (simp; omega)) _)))).mono ?_); rintro e w' ⟨rfl, x, rfl⟩)) | (go_at_call 79; ((with_reducible refine (isDayTime_any _ _).mono ?_); rintro e w' ⟨rfl, rfl⟩)))
    all_goals first | exact bodyPost_ret (v := .tuple #[.agg #[.int .i64 0, .int .i64 0, .int .i64 0], .bool false]) (by simp [results, Tryd.results39, go_sem]) rfl (RetCB.mk_ (v := z3) rfl (by repeat (first | exact Below.refl _ _ | assumption | refine bExt ?_ _ | refine bAlloc ?_ _ | refine bDrewN ?_ _ | refine bDrew ?_ | refine bSet ?_ (by first | exact Nat.le_refl _ | omega | (simp; done) | (simp; omega)) _))) | (exfalso; simp_all)
  · rw [show shP l a b c gap t = shF (cuT l a b c gap) t (cuT l a b c gap).length by simp [shP, hk]]
    simp only [shG, Bool.and_eq_true] at hk
    obtain ⟨ht, htt⟩ := hk
    rw [ht] at cG
    have cC := fun w' h => cuesOf_any w' L n cl l a b c gap h hn ht
    have HK := Lib.hid (fun k => shF_kind (cuT_ok ht) t k)
    have hTle := cuT_len ht
    generalize cuT l a b c gap = T at *
    clear ht
    go_enter Tryd.func39, Tryd.ntmps39
    go_wp2_with (first | (go_at_call 73; ((with_reducible refine (cG _ (hl.below (by repeat (first | exact Below.refl _ _ | assumption | refine bExt ?_ _ | refine bAlloc ?_ _ | refine bDrewN ?_ _ | refine bDrew ?_ | refine bSet ?_ (by first | exact Nat.le_refl _ | omega | (simp; done) | (simp; omega)) _)))).mono ?_); rintro e w' ⟨rfl, x, rfl⟩)) | (go_at_call 79; ((with_reducible refine (isDayTime_any _ _).mono ?_); rintro e w' ⟨rfl, rfl⟩)) | (go_at_call 74; ((with_reducible refine (cC _ (hl.below (by repeat (first | exact Below.refl _ _ | assumption | refine bExt ?_ _ | refine bAlloc ?_ _ | refine bDrewN ?_ _ | refine bDrew ?_ | refine bSet ?_ (by first | exact Nat.le_refl _ | omega | (simp; done) | (simp; omega)) _)))).mono ?_); rintro e w' ⟨A1, n1, c1, x1, rfl, rfl, o1⟩)))
    have HTl := Lib.hid o1.len
    have o8 := (OwC.lit_ (Below.refl _ (ext ((w.alloc (.cells #[.int .i64 a, .int .i64 b, .int .i64 c, .int .i64 gap] 53)).alloc (.cells #[.int .i64 0, .int .i64 0, .int .i64 0] 62)) x)) [z3] (by simp [maxLen]) #[.int .i64 0, .int .i64 0, .int .i64 0] rfl).below (bExt (Below.refl _ _) x1)
    have oT0 : Ow3 62 ((ext ((w.alloc (.cells #[.int .i64 a, .int .i64 b, .int .i64 c, .int .i64 gap] 53)).alloc (.cells #[.int .i64 0, .int .i64 0, .int .i64 0] 62)) x).heap.size + 1) (ext ((ext ((w.alloc (.cells #[.int .i64 a, .int .i64 b, .int .i64 c, .int .i64 gap] 53)).alloc (.cells #[.int .i64 0, .int .i64 0, .int .i64 0] 62)) x).alloc (.cells #[.int .i64 0, .int .i64 0, .int .i64 0] 62)) x1) A1 n1 c1 T := o1.mono (by simp)
    have hBR : Below w.heap.size w (ext ((w.alloc (.cells #[.int .i64 a, .int .i64 b, .int .i64 c, .int .i64 gap] 53)).alloc (.cells #[.int .i64 0, .int .i64 0, .int .i64 0] 62)) x) := by repeat (first | exact Below.refl _ _ | assumption | refine bExt ?_ _ | refine bAlloc ?_ _ | refine bDrewN ?_ _ | refine bDrew ?_ | refine bSet ?_ (by first | exact Nat.le_refl _ | omega | (simp; done) | (simp; omega)) _)
    have hrc : ∀ i u, (((w.alloc (.cells #[.int .i64 a, .int .i64 b, .int .i64 c, .int .i64 gap] 53)).alloc (.cells #[.int .i64 0, .int .i64 0, .int .i64 0] 62))).cell? ⟨w.heap.size + 1, i, none⟩ = some u → (ext ((w.alloc (.cells #[.int .i64 a, .int .i64 b, .int .i64 c, .int .i64 gap] 53)).alloc (.cells #[.int .i64 0, .int .i64 0, .int .i64 0] 62)) x).cell? ⟨w.heap.size + 1, i, none⟩ = some u := fun i u h => by rw [ext_cell _ _ _ _ _ (by simp)]; exact h
    have hr0 := Lib.hid (hrc 0 (.int .i64 0) (by simp [go_sem]))
    have hr1 := Lib.hid (hrc 1 (.int .i64 0) (by simp [go_sem]))
    have hr2 := Lib.hid (hrc 2 (.int .i64 0) (by simp [go_sem]))
    have hrf : ∀ i, (ext ((w.alloc (.cells #[.int .i64 a, .int .i64 b, .int .i64 c, .int .i64 gap] 53)).alloc (.cells #[.int .i64 0, .int .i64 0, .int .i64 0] 62)) x).frozen? ⟨w.heap.size + 1, i, none⟩ = false := fun i => by rw [ext_frozen _ _ _ _ _ (by simp)]; simp [go_sem]
    have HRF := Lib.hid hrf
    have hgr : w.heap.size + 1 < (ext ((w.alloc (.cells #[.int .i64 a, .int .i64 b, .int .i64 c, .int .i64 gap] 53)).alloc (.cells #[.int .i64 0, .int .i64 0, .int .i64 0] 62)) x).heap.size := by have := ext_le ((w.alloc (.cells #[.int .i64 a, .int .i64 b, .int .i64 c, .int .i64 gap] 53)).alloc (.cells #[.int .i64 0, .int .i64 0, .int .i64 0] 62)) x; simp at this; omega
    have HBR := Lib.hid hBR
    have HB0 := Lib.hid (show Below (ext ((w.alloc (.cells #[.int .i64 a, .int .i64 b, .int .i64 c, .int .i64 gap] 53)).alloc (.cells #[.int .i64 0, .int .i64 0, .int .i64 0] 62)) x).heap.size (ext ((w.alloc (.cells #[.int .i64 a, .int .i64 b, .int .i64 c, .int .i64 gap] 53)).alloc (.cells #[.int .i64 0, .int .i64 0, .int .i64 0] 62)) x) (ext ((ext ((w.alloc (.cells #[.int .i64 a, .int .i64 b, .int .i64 c, .int .i64 gap] 53)).alloc (.cells #[.int .i64 0, .int .i64 0, .int .i64 0] 62)) x).alloc (.cells #[.int .i64 0, .int .i64 0, .int .i64 0] 62)) x1) from by repeat (first | exact Below.refl _ _ | assumption | refine bExt ?_ _ | refine bAlloc ?_ _ | refine bDrewN ?_ _ | refine bDrew ?_ | refine bSet ?_ (by first | exact Nat.le_refl _ | omega | (simp; done) | (simp; omega)) _))
    clear hrc hrf hBR o1 cG cC
    generalize (ext ((w.alloc (.cells #[.int .i64 a, .int .i64 b, .int .i64 c, .int .i64 gap] 53)).alloc (.cells #[.int .i64 0, .int .i64 0, .int .i64 0] 62)) x) = R0 at *
    generalize ext (R0.alloc (.cells #[.int .i64 0, .int .i64 0, .int .i64 0] 62)) x1 = W8 at *
    have h8l : R0.heap.size < W8.heap.size := (o8.blk (g := R0.heap.size) rfl).2
    go_loopw [9, 27] (fun b9 i wr => ∃ k : Nat, k ≤ n1 ∧ i = .int .i64 k ∧ b9 = .bool (shF T t k).2 ∧ Hid (Below R0.heap.size R0 wr) ∧ Ow3 62 R0.heap.size wr (some ⟨R0.heap.size, 0, none⟩) 1 1 [(shF T t k).1] ∧ Ow3 62 (R0.heap.size + 1) wr A1 n1 c1 T) (fun b9 i _ => n1 - (intOf i).toNat)
    case atStart => exact ⟨0, by omega, rfl, rfl, HB0, o8, oT0⟩
    case round =>
      clear o8 oT0 HB0
      obtain ⟨k, hk, rfl, rfl, HB, o8, oT⟩ := hrel
      have h80 := o8.cell_ 0 (by omega)
      have h8f := o8.frozen_ 0
      have h8f1 := o8.frozen_ 1
      have h8f2 := o8.frozen_ 2
      simp only [Nat.zero_mul, Nat.zero_add, List.getElem?_cons_zero, Option.getD_some] at h80
      obtain ⟨h80, h81, h82⟩ := h80
      have h8l := (o8.blk (g := R0.heap.size) rfl).2
      have hnA : blkOf A1 = none ∨ blkOf A1 ≠ some R0.heap.size := by
        cases hA : blkOf A1 with
        | none => exact .inl rfl
        | some g => exact .inr (fun e => by injection e with e; have := (oT.blk hA).1; omega)
      have hn160 : n1 ≤ 160 := by rw [← HTl.out]; exact hTle
      by_cases hlt : k < n1
      · obtain ⟨g, rfl, hg1, hg2⟩ := oT.form_ (by omega)
        obtain ⟨hc0, hc1, hc2⟩ := oT.cell_ k hlt
        have HS := Lib.hid (shF_succ T t k (by rw [HTl.out]; exact hlt))
        generalize T[k]?.getD z3 = x at *
        generalize shF T t k = F0 at *
        obtain ⟨fv, fb⟩ := F0
        have oT1 := oT.below (bAlloc (Below.refl _ _) (.cells #[.int .i64 x.1, .int .i64 x.2.1, .int .i64 x.2.2] 62))
        have o81 := o8.below (bAlloc (Below.refl _ _) (.cells #[.int .i64 x.1, .int .i64 x.2.1, .int .i64 x.2.2] 62))
        by_cases hx : x.1 ≤ t
        · have HV := Lib.hid (HS.out.trans (if_pos hx))
          have hst := o8.storedC 0 (by omega) x
          have Hst := Lib.hid hst
          clear hst
          go_wp2
          go_roundw
          case rel =>
            have hB1 := HB.out.grown Hst.out.2 HB.out.size (fun k hk => by injection hk with hk; omega)
            exact ⟨k + 1, by omega, by go_num, by rw [HV.out], hB1.trans ((bAlloc (Below.refl _ _) (.cells #[.int .i64 x.1, .int .i64 x.2.1, .int .i64 x.2.2] 62)).mono hB1.size), by rw [HV.out]; exact Hst.out.1.below (bAlloc (Below.refl _ _) (.cells #[.int .i64 x.1, .int .i64 x.2.1, .int .i64 x.2.2] 62)), (oT.kept Hst.out.2 hnA).below (bAlloc (Below.refl _ _) (.cells #[.int .i64 x.1, .int .i64 x.2.1, .int .i64 x.2.2] 62))⟩
          case measure => simp [intOf]; omega
        · have HV := Lib.hid (HS.out.trans (if_neg hx))
          go_wp2
          go_roundw
          case rel => exact ⟨k + 1, by omega, by go_num, by rw [HV.out], HB.out.trans ((bAlloc (Below.refl _ _) (.cells #[.int .i64 x.1, .int .i64 x.2.1, .int .i64 x.2.2] 62)).mono HB.out.size), by rw [HV.out]; exact o81, oT1⟩
          case measure => simp [intOf]; omega
      · have hkn := Lib.hid (show k = n1 by omega)
        have q0 := (HB.out.cell (p := ⟨w.heap.size + 1, 0, none⟩) hgr).trans hr0.out
        have q1 := (HB.out.cell (p := ⟨w.heap.size + 1, 1, none⟩) hgr).trans hr1.out
        have q2 := (HB.out.cell (p := ⟨w.heap.size + 1, 2, none⟩) hgr).trans hr2.out
        have p0 := (HB.out.frozen (p := ⟨w.heap.size + 1, 0, none⟩) hgr).trans (HRF.out 0)
        have p1 := (HB.out.frozen (p := ⟨w.heap.size + 1, 1, none⟩) hgr).trans (HRF.out 1)
        have p2 := (HB.out.frozen (p := ⟨w.heap.size + 1, 2, none⟩) hgr).trans (HRF.out 2)
        have HKk := HK.out k
        have hkf : (shF T t T.length) = (shF T t k) := by rw [HTl.out, hkn.out]
        obtain ⟨F0, hF0⟩ : ∃ F0, shF T t k = F0 := ⟨_, rfl⟩
        rw [hF0] at hkf HKk h80 h81 h82 ⊢
        obtain ⟨fv, fb⟩ := F0
        have HKF := Lib.hid hkf
        simp only at HKk h80 h81 h82
        have HKk := Lib.hid HKk
        clear hF0 o8
        have hBw := HBR.out.trans (HB.out.mono HBR.out.size)
        have HBw := Lib.hid hBw
        clear hkf hBw
        go_wp2
        exact bodyPost_ret (v := .tuple #[.agg #[.int .i64 fv.1, .int .i64 fv.2.1, .int .i64 fv.2.2], .bool fb]) (by simp [results, Tryd.results39, go_sem, q0, q1, q2]) rfl (by rw [HKF.out]; exact RetCB.mk_ rfl (by have := HBw.out; repeat (first | exact Below.refl _ _ | assumption | refine bExt ?_ _ | refine bAlloc ?_ _ | refine bDrewN ?_ _ | refine bDrew ?_ | refine bSet ?_ (by first | exact Nat.le_refl _ | omega | (simp; done) | (simp; omega)) _)))
end Go.Proofs.YtpjaiihkgeabiaaDoor
namespace Go.Proofs.YtpjaiihkgeabiaaDoor
open Go.RowKit
theorem cue_time {p q : T3} (h : cKey p ≤ cKey q) : p.1 ≤ q.1 := by
  have h1 := ordK_bd p.2.1
  have h2 := ordK_bd q.2.1
  unfold cKey at h
  omega
/-- When the score of slot i is known: within a day. -/
theorem sc_bd {l : List (Int × Int)} {a b c gap : Int} (h : timedB l a b c gap = true) (i : Nat) (hi : i < l.length) :
    0 ≤ (runS l a b c gap 0 0)[i]?.getD 0 ∧ 0 ≤ (l[i]?.getD (0, 0)).2 ∧ 0 ≤ gap ∧ (runS l a b c gap 0 0)[i]?.getD 0 + (l[i]?.getD (0, 0)).2 + gap ≤ 200000 := by
  obtain ⟨G, S, W, hG, hS, hW, hok, hSl, hWl, hW0, hn, hgl, hgs, hst, hSb, hend, hmus, hm, ha, hb, hc, hg⟩ := day_facts h
  have hS' : runS l a b c gap 0 0 = S := by rw [← hS]; simp [startsV, h]
  have hlast : (S[l.length - 1]?.getD 0) + ((l[l.length - 1]?.getD (0, 0)).2 + gap) = endV l a b c gap := by
    have hp : ∀ k, k < G.length → 1 ≤ G[k]?.getD 0 := fun k hk => (hgs k hk).2.2.1
    have hall := groups_all l.length b (by omega) hb.1
    obtain ⟨g, hgg⟩ : ∃ g, G.length = g + 1 := ⟨G.length - 1, by omega⟩
    have h1 := outS_last (l := l) (a := a) (c := c) (gap := gap) hp g (by omega)
    rw [hG] at hall
    have hk : outK G (g + 1) = l.length := by rw [← hgg]; omega
    rw [hk] at h1
    rw [endV, if_pos h]
    unfold runT
    rw [hG, hgg, h1, ← hS']
    unfold runS
    rw [hG, hgg]
  have hall : ∀ d : Nat, d < l.length → (S[l.length - 1 - d]?.getD 0) + ((l[l.length - 1 - d]?.getD (0, 0)).2 + gap) ≤ endV l a b c gap := by
    intro d
    induction d with
    | zero => intro _; rw [Nat.sub_zero, hlast]; omega
    | succ d ih =>
      intro hd
      have h1 := ih (by omega)
      have h2 := hst (l.length - 1 - (d + 1)) (by omega)
      rw [show l.length - 1 - (d + 1) + 1 = l.length - 1 - d by omega] at h2
      have h3 := hm (l.length - 1 - d) (by omega)
      omega
  have h4 := hall (l.length - 1 - i) (by omega)
  rw [show l.length - 1 - (l.length - 1 - i) = i by omega] at h4
  have h5 := hSb i hi
  have h6 := hm i hi
  have h7 := hmus l.length (Nat.le_refl _)
  have h8 := mul_bd (a := (l.length : Int)) (b := gap) (A := 40) (B := 300) (by omega) (by omega) (by omega) (by omega)
  have h9 := mul_bd (a := (G.length : Int)) (b := c) (A := 40) (B := 600) (by omega) (by omega) (by omega) (by omega)
  rw [hS']
  omega
theorem sk_pos {l : List (Int × Int)} (h : slotsB l = true) (i : Nat) (hi : i < l.length) : 1 ≤ (l[i]?.getD (0, 0)).1 ∧ (l[i]?.getD (0, 0)).1 ≤ 999 := by
  have := (slotsB_of h).1 i hi
  simp only [slotOkAt, Bool.and_eq_true] at this
  exact inB_iff.1 this.1.1
theorem cueB_mk {t k s : Int} (h1 : 0 ≤ t) (h2 : t ≤ 200000) (h3 : 1 ≤ k) (h4 : k ≤ 4) (h5 : 0 ≤ s) (h6 : s ≤ 999) (h7 : s = 0 ↔ k = 1) : cueB t k s = true := by
  simp only [cueB, Bool.and_eq_true, beq_iff_eq, decide_eq_decide]
  exact ⟨inB_iff.2 ⟨h1, h2⟩, inB_iff.2 ⟨h3, h4⟩, inB_iff.2 ⟨h5, h6⟩, h7⟩
/-- The cues of a day. -/
theorem cues_facts {l : List (Int × Int)} {a b c gap : Int} (h : timedB l a b c gap = true) :
    cuV l a b c gap = cuT l a b c gap ∧ (cuV l a b c gap).length = 3 * l.length + (warmsV l a b c gap).length ∧ (warmsV l a b c gap).length ≤ 40 ∧
    (∀ k : Nat, k + 1 < (cuV l a b c gap).length → ((cuV l a b c gap)[k]?.getD z3).1 ≤ ((cuV l a b c gap)[k + 1]?.getD z3).1) ∧
    ∀ k : Nat, k < (cuV l a b c gap).length → cueB ((cuV l a b c gap)[k]?.getD z3).1 ((cuV l a b c gap)[k]?.getD z3).2.1 ((cuV l a b c gap)[k]?.getD z3).2.2 = true := by
  have e : cuV l a b c gap = cuT l a b c gap := by simp [cuV, h]
  have eW : warmsV l a b c gap = runW l a b c gap 0 0 := by simp [warmsV, h]
  have hW := runW_facts h
  rw [e]
  refine ⟨rfl, ?_, by rw [eW]; exact hW.1, fun k hk => ?_, fun k hk => ?_⟩
  · unfold cuT
    rw [stS_len, cuA, List.length_append, slC_len, wmC_len, eW]
    omega
  · have hsrt : Srt cKey (cuT l a b c gap) := (stS_spec _).1
    have h1 := (List.pairwise_iff_getElem.1 hsrt) k (k + 1) (by omega) hk (by omega)
    rw [List.getElem?_eq_getElem hk, List.getElem?_eq_getElem (show k < (cuT l a b c gap).length by omega)]
    exact cue_time h1
  · have hm := stS_mem (getD_mem z3 (cuT l a b c gap) k hk)
    generalize (cuT l a b c gap)[k]?.getD z3 = q at *
    rw [cuA, List.mem_append] at hm
    have hsl := (timedB_of h).1
    rcases hm with hm | hm
    · simp only [wmC, List.take_length, List.mem_map] at hm
      obtain ⟨t, ht, rfl⟩ := hm
      have h0 := hW.2 t ht
      obtain ⟨G, S, W, hG, hS, hWV, hok, hSl, hWl, hW0, hn, hgl, hgs, hst, hSb, hend, hmus, hm, ha, hb, hc, hg⟩ := day_facts h
      rw [eW] at hWV
      rw [hWV] at ht
      obtain ⟨j, hj, rfl⟩ := List.mem_iff_getElem.1 ht
      have h2 := hgs j (by omega)
      have hS' : runS l a b c gap 0 0 = S := by rw [← hS]; simp [startsV, h]
      have h3 := sc_bd h (outK G j) h2.1
      rw [hS', h2.2.2.2.2.1, List.getElem?_eq_getElem hj, Option.getD_some] at h3
      show cueB (W[j]) 1 0 = true
      exact cueB_mk h0.1 (by omega) (by omega) (by omega) (by omega) (by omega) (by simp)
    · simp only [slC, List.mem_flatMap, List.mem_range] at hm
      obtain ⟨i, hi, hm⟩ := hm
      have h3 := sc_bd h i hi
      have h4 := sk_pos hsl i hi
      simp only [List.mem_cons, List.not_mem_nil, or_false] at hm
      rcases hm with rfl | rfl | rfl
      · show cueB ((runS l a b c gap 0 0)[i]?.getD 0) 2 ((l[i]?.getD (0, 0)).1) = true
        exact cueB_mk (by omega) (by omega) (by omega) (by omega) (by omega) h4.2 (by omega)
      · show cueB ((runS l a b c gap 0 0)[i]?.getD 0 + (l[i]?.getD (0, 0)).2) 3 ((l[i]?.getD (0, 0)).1) = true
        exact cueB_mk (by omega) (by omega) (by omega) (by omega) (by omega) h4.2 (by omega)
      · show cueB ((runS l a b c gap 0 0)[i]?.getD 0 + (l[i]?.getD (0, 0)).2 + gap) 4 ((l[i]?.getD (0, 0)).1) = true
        exact cueB_mk (by omega) (by omega) (by omega) (by omega) (by omega) h4.2 (by omega)
theorem between_facts {l : List (Int × Int)} {a b c gap f t : Int} (k : Nat) (hk : k < (cbV l a b c gap f t).length) : f ≤ ((cbV l a b c gap f t)[k]?.getD z3).1 ∧ ((cbV l a b c gap f t)[k]?.getD z3).1 ≤ t := by
  have hm := getD_mem z3 _ k hk
  generalize (cbV l a b c gap f t)[k]?.getD z3 = q at *
  unfold cbV at hm
  split at hm
  · exact inB_iff.1 (List.mem_filter.1 hm).2
  · cases hm
theorem sh_inv {T : List T3} (hT : ∀ q ∈ T, cueOk q) (t : Int) (k : Nat) (hk : k ≤ T.length) (h : (shF T t k).2 = true) :
    0 < (cbL T 0 t k).length ∧ (cbL T 0 t k)[(cbL T 0 t k).length - 1]?.getD z3 = (shF T t k).1 ∧ (shF T t k).1.1 ≤ t := by
  induction k with
  | zero => simp [shF] at h
  | succ k ih =>
    have hlt : k < T.length := by omega
    have hq := (hT _ (getD_mem z3 T k hlt)).1.1
    rw [shF_succ T t k hlt] at h ⊢
    by_cases c : (T[k]?.getD z3).1 ≤ t
    · have e : shStep t (shF T t k) (T[k]?.getD z3) = (T[k]?.getD z3, true) := if_pos c
      rw [e, cbL_yes hlt rfl (inB_iff.2 ⟨hq, c⟩)]
      refine ⟨by simp, ?_, c⟩
      simp
    · have e : shStep t (shF T t k) (T[k]?.getD z3) = shF T t k := if_neg c
      rw [e] at h ⊢
      rw [cbL_no hlt rfl (inB_not.2 (by omega))]
      exact ih (by omega) h
/-- The shown cue. -/
theorem shown_facts {l : List (Int × Int)} {a b c gap t : Int} (h : (shP l a b c gap t).2 = true) :
    cbB l a b c gap 0 t = true ∧ 0 < (cbV l a b c gap 0 t).length ∧ (cbV l a b c gap 0 t)[(cbV l a b c gap 0 t).length - 1]?.getD z3 = (shP l a b c gap t).1 ∧ (shP l a b c gap t).1.1 ≤ t := by
  unfold shP at h ⊢
  cases hg : shG l a b c gap t with
  | false => rw [hg] at h; simp at h
  | true =>
    rw [hg, if_pos rfl] at h
    rw [if_pos rfl]
    simp only [shG, Bool.and_eq_true] at hg
    have hb : cbB l a b c gap 0 t = true := by
      simp only [cbB, Bool.and_eq_true]
      exact ⟨hg.1, inB_iff.2 (by omega), hg.2⟩
    rw [cbV, if_pos hb]
    exact ⟨hb, sh_inv (fun q hq => cuT_ok hg.1 q hq) t _ (Nat.le_refl _) h⟩
end Go.Proofs.YtpjaiihkgeabiaaDoor
