/- CuesOf and CuesBetween of the program and of the reference. Conditions: lengths below 2^40. -/
import Derived.Test.YtdmaildajmhicaaCues2
import Derived.Test.YtdmaildajmhicaaCues3
import Derived.Test.YtdmaildajmhicaaTimes3
set_option linter.unusedVariables false
set_option linter.unusedSimpArgs false
set_option maxRecDepth 100000
namespace Go.Proofs.Ytdmaildajmhicaa
open Go.RowKit
/-- What a function that hands back cues in new memory and an ok ends with. -/
def Ret3B (e : Nat) (w : World) (l : List T3) (ok : Bool) (E : Ending) (w' : World) : Prop := ∃ A n c x, E = .returned (.tuple #[.slice A n c, .bool ok]) ∧ w' = ext w x ∧ Ow3 e w.heap.size (ext w x) A n c l
theorem Ret3B.mk_ {e : Nat} {w W : World} {base : Nat} {A : Option Addr} {n c : Nat} {l : List T3} {ok : Bool} (ho : Ow3 e base W A n c l) (hbase : w.heap.size ≤ base) (hb : Below w.heap.size w W) : Ret3B e w l ok (.returned (.tuple #[.slice A n c, .bool ok])) W := by
  obtain ⟨x, rfl⟩ := ext_ex hb
  exact ⟨A, n, c, x, rfl, rfl, ho.mono hbase⟩
def cuV (l : List (Int × Int)) (a b c gap : Int) : List T3 := if timedB l a b c gap then cuT l a b c gap else []
theorem cuV_len (l : List (Int × Int)) (a b c gap : Int) : (cuV l a b c gap).length ≤ 160 := by
  unfold cuV; split
  · exact cuT_len (by assumption)
  · simp
def cbB (l : List (Int × Int)) (a b c gap f t : Int) : Bool := timedB l a b c gap && (inB f 0 200000 && inB t 0 200000)
def cbL (T : List T3) (f t : Int) (k : Nat) : List T3 := (T.take k).filter fun q => inB q.1 f t
def cbV (l : List (Int × Int)) (a b c gap f t : Int) : List T3 := if cbB l a b c gap f t then cbL (cuT l a b c gap) f t (cuT l a b c gap).length else []
theorem cbL_yes {T : List T3} {f t : Int} {k : Nat} {x : T3} (h : k < T.length) (e : T[k]?.getD z3 = x) (hi : inB x.1 f t = true) : cbL T f t (k + 1) = cbL T f t k ++ [x] := by
  rw [cbL, take_succ_getD z3 T k h, e, List.filter_append, List.filter_cons_of_pos (by simpa using hi)]; rfl
theorem cbL_no {T : List T3} {f t : Int} {k : Nat} {x : T3} (h : k < T.length) (e : T[k]?.getD z3 = x) (hi : inB x.1 f t = false) : cbL T f t (k + 1) = cbL T f t k := by
  rw [cbL, take_succ_getD z3 T k h, e, List.filter_append, List.filter_cons_of_neg (by simp [hi])]; simp [cbL]
theorem cbV_len (l : List (Int × Int)) (a b c gap f t : Int) : (cbV l a b c gap f t).length ≤ 160 := by
  unfold cbV; split
  · rename_i h
    simp only [cbB, Bool.and_eq_true] at h
    refine Nat.le_trans (List.length_filter_le _ _) ?_
    rw [List.take_length]; exact cuT_len h.1
  · simp
theorem dj_app {A A' B : Option Addr} {e s base n c : Nat} {xs : List Value} {W W' : World} (h : Dj A B) (hB : Ow e s base W B n c xs) (hW : W.heap.size ≤ W'.heap.size) (hd : blkOf A' = blkOf A ∨ blkOf A' = some W'.heap.size) : Dj A' B := by
  intro g hA hBg
  rcases hd with hd | hd
  · exact h g (by rw [← hd]; exact hA) hBg
  · rw [hd] at hA
    cases hA
    have := (hB.blk hBg).2
    omega
theorem specCuesOf_any (w : World) (L : Option Addr) (n cl : Nat) (l : List (Int × Int)) (a b c gap : Int) (hl : RdS w L n l) (hn : n ≤ 1099511627776) :
    Calls Try.prog 30 #[.slice L n cl, .agg #[.int .i64 a, .int .i64 b, .int .i64 c, .int .i64 gap]] w (Ret3B 41 w (cuV l a b c gap) (timedB l a b c gap)) := by
  have cG := fun w' h => tiGood_any w' L n cl l a b c gap h hn
  cases ht : timedB l a b c gap
  · rw [show cuV l a b c gap = [] by simp [cuV, ht]]
    rw [ht] at cG
    go_enter Try.func30, Try.ntmps30
    go_wp2_with (first | (go_at_call 47; ((with_reducible refine (cG _ (hl.below (by repeat (first | exact Below.refl _ _ | assumption | refine bExt ?_ _ | refine bAlloc ?_ _ | refine bDrewN ?_ _ | refine bDrew ?_ | refine bSet ?_ (by first | exact Nat.le_refl _ | omega | (simp; done) | (simp; omega)) _)))).mono ?_); rintro e w' ⟨rfl, x, rfl⟩)))
    go_ret2
    exact Ret3B.mk_ Ow3.nil_ (Nat.le_refl _) (by repeat (first | exact Below.refl _ _ | assumption | refine bExt ?_ _ | refine bAlloc ?_ _ | refine bDrewN ?_ _ | refine bDrew ?_ | refine bSet ?_ (by first | exact Nat.le_refl _ | omega | (simp; done) | (simp; omega)) _))
  · rw [show cuV l a b c gap = cuT l a b c gap by simp [cuV, ht]]
    rw [ht] at cG
    go_enter Try.func30, Try.ntmps30
    go_wp2_with (first | (go_at_call 47; ((with_reducible refine (cG _ (hl.below (by repeat (first | exact Below.refl _ _ | assumption | refine bExt ?_ _ | refine bAlloc ?_ _ | refine bDrewN ?_ _ | refine bDrew ?_ | refine bSet ?_ (by first | exact Nat.le_refl _ | omega | (simp; done) | (simp; omega)) _)))).mono ?_); rintro e w' ⟨rfl, x, rfl⟩)) | (go_at_call 58; ((with_reducible refine (srCues_any _ _ _ _ _ _ _ _ _ (hl.below (by repeat (first | exact Below.refl _ _ | assumption | refine bExt ?_ _ | refine bAlloc ?_ _ | refine bDrewN ?_ _ | refine bDrew ?_ | refine bSet ?_ (by first | exact Nat.le_refl _ | omega | (simp; done) | (simp; omega)) _))) hn ht).mono ?_); rintro e w' ⟨A1, n1, c1, x1, rfl, rfl, o1⟩)))
    go_ret2
    exact Ret3B.mk_ o1 (base_le (by repeat (first | exact Below.refl _ _ | assumption | refine bExt ?_ _ | refine bAlloc ?_ _ | refine bDrewN ?_ _ | refine bDrew ?_ | refine bSet ?_ (by first | exact Nat.le_refl _ | omega | (simp; done) | (simp; omega)) _))) (by repeat (first | exact Below.refl _ _ | assumption | refine bExt ?_ _ | refine bAlloc ?_ _ | refine bDrewN ?_ _ | refine bDrew ?_ | refine bSet ?_ (by first | exact Nat.le_refl _ | omega | (simp; done) | (simp; omega)) _))
theorem implCuesOf_any (w : World) (L : Option Addr) (n cl : Nat) (l : List (Int × Int)) (a b c gap : Int) (hl : RdS w L n l) (hn : n ≤ 1099511627776) (hnc : n ≤ cl) :
    Calls Try.prog 31 #[.slice L n cl, .agg #[.int .i64 a, .int .i64 b, .int .i64 c, .int .i64 gap]] w (Ret3B 41 w (cuV l a b c gap) (timedB l a b c gap)) := by
  have cG := fun w' h => areTimed_any w' L n cl l a b c gap h hn hnc
  cases ht : timedB l a b c gap
  · rw [show cuV l a b c gap = [] by simp [cuV, ht]]
    rw [ht] at cG
    go_enter Try.func31, Try.ntmps31
    go_wp2_with (first | (go_at_call 51; ((with_reducible refine (cG _ (hl.below (by repeat (first | exact Below.refl _ _ | assumption | refine bExt ?_ _ | refine bAlloc ?_ _ | refine bDrewN ?_ _ | refine bDrew ?_ | refine bSet ?_ (by first | exact Nat.le_refl _ | omega | (simp; done) | (simp; omega)) _)))).mono ?_); rintro e w' ⟨rfl, x, rfl⟩)))
    go_ret2
    exact Ret3B.mk_ Ow3.nil_ (Nat.le_refl _) (by repeat (first | exact Below.refl _ _ | assumption | refine bExt ?_ _ | refine bAlloc ?_ _ | refine bDrewN ?_ _ | refine bDrew ?_ | refine bSet ?_ (by first | exact Nat.le_refl _ | omega | (simp; done) | (simp; omega)) _))
  · rw [show cuV l a b c gap = cuT l a b c gap by simp [cuV, ht]]
    rw [ht] at cG
    go_enter Try.func31, Try.ntmps31
    go_wp2_with (first | (go_at_call 51; ((with_reducible refine (cG _ (hl.below (by repeat (first | exact Below.refl _ _ | assumption | refine bExt ?_ _ | refine bAlloc ?_ _ | refine bDrewN ?_ _ | refine bDrew ?_ | refine bSet ?_ (by first | exact Nat.le_refl _ | omega | (simp; done) | (simp; omega)) _)))).mono ?_); rintro e w' ⟨rfl, x, rfl⟩)) | (go_at_call 59; ((with_reducible refine (cuesOf_any _ _ _ _ _ _ _ _ _ (hl.below (by repeat (first | exact Below.refl _ _ | assumption | refine bExt ?_ _ | refine bAlloc ?_ _ | refine bDrewN ?_ _ | refine bDrew ?_ | refine bSet ?_ (by first | exact Nat.le_refl _ | omega | (simp; done) | (simp; omega)) _))) hn ht).mono ?_); rintro e w' ⟨A1, n1, c1, x1, rfl, rfl, o1⟩)))
    go_ret2
    exact Ret3B.mk_ o1 (base_le (by repeat (first | exact Below.refl _ _ | assumption | refine bExt ?_ _ | refine bAlloc ?_ _ | refine bDrewN ?_ _ | refine bDrew ?_ | refine bSet ?_ (by first | exact Nat.le_refl _ | omega | (simp; done) | (simp; omega)) _))) (by repeat (first | exact Below.refl _ _ | assumption | refine bExt ?_ _ | refine bAlloc ?_ _ | refine bDrewN ?_ _ | refine bDrew ?_ | refine bSet ?_ (by first | exact Nat.le_refl _ | omega | (simp; done) | (simp; omega)) _))
set_option maxHeartbeats 2000000 in
theorem specCuesBetween_any (w : World) (L : Option Addr) (n cl : Nat) (l : List (Int × Int)) (a b c gap f t : Int) (hl : RdS w L n l) (hn : n ≤ 1099511627776) :
    Calls Try.prog 37 #[.slice L n cl, .agg #[.int .i64 a, .int .i64 b, .int .i64 c, .int .i64 gap], .int .i64 f, .int .i64 t] w (Ret3B 41 w (cbV l a b c gap f t) (cbB l a b c gap f t)) := by
  have cG := fun w' h => tiGood_any w' L n cl l a b c gap h hn
  cases hk : cbB l a b c gap f t
  · rw [show cbV l a b c gap f t = [] by simp [cbV, hk]]
    unfold cbB at hk
    go_enter Try.func37, Try.ntmps37
    go_wp2_with (first | (go_at_call 47; ((with_reducible refine (cG _ (hl.below (by repeat (first | exact Below.refl _ _ | assumption | refine bExt ?_ _ | refine bAlloc ?_ _ | refine bDrewN ?_ _ | refine bDrew ?_ | refine bSet ?_ (by first | exact Nat.le_refl _ | omega | (simp; done) | (simp; omega)) _)))).mono ?_); rintro e w' ⟨rfl, x, rfl⟩)) | (go_at_call 48; ((with_reducible refine (tiClock_any _ _).mono ?_); rintro e w' ⟨rfl, rfl⟩)))
    all_goals first | (go_ret2; exact Ret3B.mk_ Ow3.nil_ (Nat.le_refl _) (by repeat (first | exact Below.refl _ _ | assumption | refine bExt ?_ _ | refine bAlloc ?_ _ | refine bDrewN ?_ _ | refine bDrew ?_ | refine bSet ?_ (by first | exact Nat.le_refl _ | omega | (simp; done) | (simp; omega)) _))) | (exfalso; simp_all)
  · rw [show cbV l a b c gap f t = cbL (cuT l a b c gap) f t (cuT l a b c gap).length by simp [cbV, hk]]
    simp only [cbB, Bool.and_eq_true] at hk
    obtain ⟨ht, hf, htt⟩ := hk
    rw [ht] at cG
    have cC := fun w' h => srCues_any w' L n cl l a b c gap h hn ht
    have hTle := cuT_len ht
    generalize cuT l a b c gap = T at *
    clear ht
    go_enter Try.func37, Try.ntmps37
    go_wp2_with (first | (go_at_call 47; ((with_reducible refine (cG _ (hl.below (by repeat (first | exact Below.refl _ _ | assumption | refine bExt ?_ _ | refine bAlloc ?_ _ | refine bDrewN ?_ _ | refine bDrew ?_ | refine bSet ?_ (by first | exact Nat.le_refl _ | omega | (simp; done) | (simp; omega)) _)))).mono ?_); rintro e w' ⟨rfl, x, rfl⟩)) | (go_at_call 48; ((with_reducible refine (tiClock_any _ _).mono ?_); rintro e w' ⟨rfl, rfl⟩)) | (go_at_call 58; ((with_reducible refine (cC _ (hl.below (by repeat (first | exact Below.refl _ _ | assumption | refine bExt ?_ _ | refine bAlloc ?_ _ | refine bDrewN ?_ _ | refine bDrew ?_ | refine bSet ?_ (by first | exact Nat.le_refl _ | omega | (simp; done) | (simp; omega)) _)))).mono ?_); rintro e w' ⟨A1, n1, c1, x1, rfl, rfl, o1⟩)))
    have HTl := Lib.hid o1.len
    have hBR : Below w.heap.size w (ext (w.alloc (.cells #[.int .i64 a, .int .i64 b, .int .i64 c, .int .i64 gap] 30)) x) := by repeat (first | exact Below.refl _ _ | assumption | refine bExt ?_ _ | refine bAlloc ?_ _ | refine bDrewN ?_ _ | refine bDrew ?_ | refine bSet ?_ (by first | exact Nat.le_refl _ | omega | (simp; done) | (simp; omega)) _)
    have HBR := Lib.hid hBR
    have oT0 := o1.mono (Nat.le_refl _)
    clear o1 hBR cG cC
    generalize (ext (w.alloc (.cells #[.int .i64 a, .int .i64 b, .int .i64 c, .int .i64 gap] 30)) x) = R at *
    go_loopw [10, 31] (fun v i wr => ∃ (k z : Nat) (D : Option Addr) (q : Nat) (y : World), (k ≤ n1 ∧ z ≤ k) ∧ i = .int .i64 k ∧ v = .slice D z q ∧ wr = ext R y ∧ Ow3 41 R.heap.size (ext R y) D z q (cbL T f t k) ∧ Ow3 41 R.heap.size (ext R y) A1 n1 c1 T ∧ Dj D A1) (fun _ i _ => n1 - (intOf i).toNat)
    case atStart => exact ⟨0, 0, none, 0, x1, by omega, rfl, rfl, rfl, Ow3.nil_, oT0, Dj.nil_⟩
    case round =>
      obtain ⟨k, z, D, q, y, ⟨hk, hzk⟩, rfl, rfl, rfl, oD, oT, hdj⟩ := hrel
      by_cases hlt : k < n1
      · obtain ⟨g, rfl, hg1, hg2⟩ := oT.form_ (by omega)
        obtain ⟨hc0, hc1, hc2⟩ := oT.cell_ k hlt
        have hkT : k < T.length := by rw [HTl.out]; exact hlt
        have HY := Lib.hid (fun h => cbL_yes (f := f) (t := t) hkT rfl h)
        have HN := Lib.hid (fun h => cbL_no (f := f) (t := t) hkT rfl h)
        have hn160 : n1 ≤ 160 := by rw [← HTl.out]; exact hTle
        clear hkT
        generalize T[k]?.getD z3 = x at *
        have cI := fun w' => l1In_any x.1 f t w'
        cases hin : inB x.1 f t
        · rw [hin] at cI
          have HS := Lib.hid (HN.out hin)
          clear hin HY HN
          go_wp2_with (first | (go_at_call 66; ((with_reducible refine (cI _).mono ?_); rintro e w' ⟨rfl, rfl⟩)))
          obtain ⟨y', hy⟩ := ext_ex (show Below R.heap.size R ((ext R y).alloc (.cells #[.int .i64 x.1, .int .i64 x.2.1, .int .i64 x.2.2] 41)) from by repeat (first | exact Below.refl _ _ | assumption | refine bExt ?_ _ | refine bAlloc ?_ _ | refine bDrewN ?_ _ | refine bDrew ?_ | refine bSet ?_ (by first | exact Nat.le_refl _ | omega | (simp; done) | (simp; omega)) _))
          have oD' := oD.below (bAlloc (Below.refl _ _) (.cells #[.int .i64 x.1, .int .i64 x.2.1, .int .i64 x.2.2] 41))
          have oT' := oT.below (bAlloc (Below.refl _ _) (.cells #[.int .i64 x.1, .int .i64 x.2.1, .int .i64 x.2.2] 41))
          rw [hy] at oD' oT'
          go_roundw
          case rel => exact ⟨k + 1, z, D, q, y', by omega, by go_num, rfl, hy, by rw [HS.out]; exact oD', oT', hdj⟩
          case measure => simp [intOf]; omega
        · rw [hin] at cI
          have HS := Lib.hid (HY.out hin)
          clear hin HY HN
          go_wp2_with (first | (go_at_call 66; ((with_reducible refine (cI _).mono ?_); rintro e w' ⟨rfl, rfl⟩)) | (at_builtin; (refine wpl_app_cue R rfl _ _ rfl D z q (cbL T f t k) rfl oD ?_ ?_ _ 1 1 [x] rfl (Rd3.one_ ?_ ?_ ?_ ?_) (Below.refl _ _) (by omega) ?_); (focus (repeat (first | exact Below.refl _ _ | assumption | refine bExt ?_ _ | refine bAlloc ?_ _ | refine bDrewN ?_ _ | refine bDrew ?_ | refine bSet ?_ (by first | exact Nat.le_refl _ | omega | (simp; done) | (simp; omega)) _))); (focus (repeat (first | exact Below.refl _ _ | assumption | refine bExt ?_ _ | refine bAlloc ?_ _ | refine bDrewN ?_ _ | refine bDrew ?_ | refine bSet ?_ (by first | exact Nat.le_refl _ | omega | (simp; done) | (simp; omega)) _))); (focus (simp [go_sem])); (focus (simp [go_sem])); (focus (simp [go_sem])); (focus (simp [go_sem])); intro D' q' y1 oD' hga hda))
          have oT2 := (oT.below (bAlloc (bAlloc (Below.refl _ _) (.cells #[.int .i64 x.1, .int .i64 x.2.1, .int .i64 x.2.2] 41)) (.cells #[.int .i64 x.1, .int .i64 x.2.1, .int .i64 x.2.2] 41))).kept hga hdj.symm.ne
          have hdj' := dj_app hdj oT (by first | (simp; done) | (simp; omega)) hda
          go_roundw
          case rel => exact ⟨k + 1, z + 1, D', q', y1, by omega, by go_num, rfl, rfl, by rw [HS.out]; exact oD', oT2, hdj'⟩
          case measure => simp [intOf]; omega
      · have hkn := Lib.hid (show k = n1 by omega)
        rw [hkn.out] at oD
        go_wp2
        go_ret2
        rw [HTl.out]
        exact Ret3B.mk_ oD HBR.out.size (HBR.out.trans ((ext_below _ _).mono HBR.out.size))
set_option maxHeartbeats 2000000 in
theorem implCuesBetween_any (w : World) (L : Option Addr) (n cl : Nat) (l : List (Int × Int)) (a b c gap f t : Int) (hl : RdS w L n l) (hn : n ≤ 1099511627776) (hnc : n ≤ cl) :
    Calls Try.prog 38 #[.slice L n cl, .agg #[.int .i64 a, .int .i64 b, .int .i64 c, .int .i64 gap], .int .i64 f, .int .i64 t] w (Ret3B 41 w (cbV l a b c gap f t) (cbB l a b c gap f t)) := by
  have cG := fun w' h => areTimed_any w' L n cl l a b c gap h hn hnc
  cases hk : cbB l a b c gap f t
  · rw [show cbV l a b c gap f t = [] by simp [cbV, hk]]
    unfold cbB at hk
    go_enter Try.func38, Try.ntmps38
    go_wp2_with (first | (go_at_call 51; ((with_reducible refine (cG _ (hl.below (by repeat (first | exact Below.refl _ _ | assumption | refine bExt ?_ _ | refine bAlloc ?_ _ | refine bDrewN ?_ _ | refine bDrew ?_ | refine bSet ?_ (by first | exact Nat.le_refl _ | omega | (simp; done) | (simp; omega)) _)))).mono ?_); rintro e w' ⟨rfl, x, rfl⟩)) | (go_at_call 52; ((with_reducible refine (isDayTime_any _ _).mono ?_); rintro e w' ⟨rfl, rfl⟩)))
    all_goals first | (go_ret2; exact Ret3B.mk_ Ow3.nil_ (Nat.le_refl _) (by repeat (first | exact Below.refl _ _ | assumption | refine bExt ?_ _ | refine bAlloc ?_ _ | refine bDrewN ?_ _ | refine bDrew ?_ | refine bSet ?_ (by first | exact Nat.le_refl _ | omega | (simp; done) | (simp; omega)) _))) | (exfalso; simp_all)
  · rw [show cbV l a b c gap f t = cbL (cuT l a b c gap) f t (cuT l a b c gap).length by simp [cbV, hk]]
    simp only [cbB, Bool.and_eq_true] at hk
    obtain ⟨ht, hf, htt⟩ := hk
    rw [ht] at cG
    have cC := fun w' h => cuesOf_any w' L n cl l a b c gap h hn ht
    have hTle := cuT_len ht
    generalize cuT l a b c gap = T at *
    clear ht
    go_enter Try.func38, Try.ntmps38
    go_wp2_with (first | (go_at_call 51; ((with_reducible refine (cG _ (hl.below (by repeat (first | exact Below.refl _ _ | assumption | refine bExt ?_ _ | refine bAlloc ?_ _ | refine bDrewN ?_ _ | refine bDrew ?_ | refine bSet ?_ (by first | exact Nat.le_refl _ | omega | (simp; done) | (simp; omega)) _)))).mono ?_); rintro e w' ⟨rfl, x, rfl⟩)) | (go_at_call 52; ((with_reducible refine (isDayTime_any _ _).mono ?_); rintro e w' ⟨rfl, rfl⟩)) | (go_at_call 59; ((with_reducible refine (cC _ (hl.below (by repeat (first | exact Below.refl _ _ | assumption | refine bExt ?_ _ | refine bAlloc ?_ _ | refine bDrewN ?_ _ | refine bDrew ?_ | refine bSet ?_ (by first | exact Nat.le_refl _ | omega | (simp; done) | (simp; omega)) _)))).mono ?_); rintro e w' ⟨A1, n1, c1, x1, rfl, rfl, o1⟩)))
    have HTl := Lib.hid o1.len
    have hBR : Below w.heap.size w (ext (w.alloc (.cells #[.int .i64 a, .int .i64 b, .int .i64 c, .int .i64 gap] 30)) x) := by repeat (first | exact Below.refl _ _ | assumption | refine bExt ?_ _ | refine bAlloc ?_ _ | refine bDrewN ?_ _ | refine bDrew ?_ | refine bSet ?_ (by first | exact Nat.le_refl _ | omega | (simp; done) | (simp; omega)) _)
    have HBR := Lib.hid hBR
    have oa := (OwC.lit_ (Below.refl _ (ext (w.alloc (.cells #[.int .i64 a, .int .i64 b, .int .i64 c, .int .i64 gap] 30)) x)) [] (by simp [maxLen]) #[] rfl).below (bExt (Below.refl _ _) x1)
    have hdaT : Dj (some ⟨(ext (w.alloc (.cells #[.int .i64 a, .int .i64 b, .int .i64 c, .int .i64 gap] 30)) x).heap.size, 0, none⟩) A1 := fun g h h2 => by have := (o1.blk h2).1; simp [blkOf] at h this; omega
    obtain ⟨y0, hy0⟩ := ext_ex (show Below (ext (w.alloc (.cells #[.int .i64 a, .int .i64 b, .int .i64 c, .int .i64 gap] 30)) x).heap.size (ext (w.alloc (.cells #[.int .i64 a, .int .i64 b, .int .i64 c, .int .i64 gap] 30)) x) (ext ((ext (w.alloc (.cells #[.int .i64 a, .int .i64 b, .int .i64 c, .int .i64 gap] 30)) x).alloc (.cells #[] 41)) x1) from by repeat (first | exact Below.refl _ _ | assumption | refine bExt ?_ _ | refine bAlloc ?_ _ | refine bDrewN ?_ _ | refine bDrew ?_ | refine bSet ?_ (by first | exact Nat.le_refl _ | omega | (simp; done) | (simp; omega)) _))
    have oT0 := o1.mono (base_le (show Below (ext (w.alloc (.cells #[.int .i64 a, .int .i64 b, .int .i64 c, .int .i64 gap] 30)) x).heap.size (ext (w.alloc (.cells #[.int .i64 a, .int .i64 b, .int .i64 c, .int .i64 gap] 30)) x) ((ext (w.alloc (.cells #[.int .i64 a, .int .i64 b, .int .i64 c, .int .i64 gap] 30)) x).alloc (.cells #[] 41)) from by repeat (first | exact Below.refl _ _ | assumption | refine bExt ?_ _ | refine bAlloc ?_ _ | refine bDrewN ?_ _ | refine bDrew ?_ | refine bSet ?_ (by first | exact Nat.le_refl _ | omega | (simp; done) | (simp; omega)) _)))
    rw [hy0] at oa oT0 ⊢
    clear o1 hBR cG cC
    generalize (ext (w.alloc (.cells #[.int .i64 a, .int .i64 b, .int .i64 c, .int .i64 gap] 30)) x) = R at *
    go_loopw [10, 32] (fun v i wr => ∃ (k z : Nat) (D : Option Addr) (q : Nat) (y : World), (k ≤ n1 ∧ z ≤ k) ∧ i = .int .i64 k ∧ v = .slice D z q ∧ wr = ext R y ∧ Ow3 41 R.heap.size (ext R y) D z q (cbL T f t k) ∧ Ow3 41 R.heap.size (ext R y) A1 n1 c1 T ∧ Dj D A1) (fun _ i _ => n1 - (intOf i).toNat)
    case atStart => exact ⟨0, 0, _, 0, y0, by omega, rfl, rfl, rfl, oa, oT0, hdaT⟩
    case round =>
      obtain ⟨k, z, D, q, y, ⟨hk, hzk⟩, rfl, rfl, rfl, oD, oT, hdj⟩ := hrel
      by_cases hlt : k < n1
      · obtain ⟨g, rfl, hg1, hg2⟩ := oT.form_ (by omega)
        obtain ⟨hc0, hc1, hc2⟩ := oT.cell_ k hlt
        have hkT : k < T.length := by rw [HTl.out]; exact hlt
        have HY := Lib.hid (fun h => cbL_yes (f := f) (t := t) hkT rfl h)
        have HN := Lib.hid (fun h => cbL_no (f := f) (t := t) hkT rfl h)
        have hn160 : n1 ≤ 160 := by rw [← HTl.out]; exact hTle
        clear hkT
        generalize T[k]?.getD z3 = x at *
        have cI := fun w' => within_any x.1 f t w'
        cases hin : inB x.1 f t
        · rw [hin] at cI
          have HS := Lib.hid (HN.out hin)
          clear hin HY HN
          go_wp2_with (first | (go_at_call 67; ((with_reducible refine (cI _).mono ?_); rintro e w' ⟨rfl, rfl⟩)))
          obtain ⟨y', hy⟩ := ext_ex (show Below R.heap.size R ((ext R y).alloc (.cells #[.int .i64 x.1, .int .i64 x.2.1, .int .i64 x.2.2] 41)) from by repeat (first | exact Below.refl _ _ | assumption | refine bExt ?_ _ | refine bAlloc ?_ _ | refine bDrewN ?_ _ | refine bDrew ?_ | refine bSet ?_ (by first | exact Nat.le_refl _ | omega | (simp; done) | (simp; omega)) _))
          have oD' := oD.below (bAlloc (Below.refl _ _) (.cells #[.int .i64 x.1, .int .i64 x.2.1, .int .i64 x.2.2] 41))
          have oT' := oT.below (bAlloc (Below.refl _ _) (.cells #[.int .i64 x.1, .int .i64 x.2.1, .int .i64 x.2.2] 41))
          rw [hy] at oD' oT'
          go_roundw
          case rel => exact ⟨k + 1, z, D, q, y', by omega, by go_num, rfl, hy, by rw [HS.out]; exact oD', oT', hdj⟩
          case measure => simp [intOf]; omega
        · rw [hin] at cI
          have HS := Lib.hid (HY.out hin)
          clear hin HY HN
          go_wp2_with (first | (go_at_call 67; ((with_reducible refine (cI _).mono ?_); rintro e w' ⟨rfl, rfl⟩)) | (at_builtin; (refine wpl_app_cue R rfl _ _ rfl D z q (cbL T f t k) rfl oD ?_ ?_ _ 1 1 [x] rfl (Rd3.one_ ?_ ?_ ?_ ?_) (Below.refl _ _) (by omega) ?_); (focus (repeat (first | exact Below.refl _ _ | assumption | refine bExt ?_ _ | refine bAlloc ?_ _ | refine bDrewN ?_ _ | refine bDrew ?_ | refine bSet ?_ (by first | exact Nat.le_refl _ | omega | (simp; done) | (simp; omega)) _))); (focus (repeat (first | exact Below.refl _ _ | assumption | refine bExt ?_ _ | refine bAlloc ?_ _ | refine bDrewN ?_ _ | refine bDrew ?_ | refine bSet ?_ (by first | exact Nat.le_refl _ | omega | (simp; done) | (simp; omega)) _))); (focus (simp [go_sem])); (focus (simp [go_sem])); (focus (simp [go_sem])); (focus (simp [go_sem])); intro D' q' y1 oD' hga hda))
          have oT2 := (oT.below (bAlloc (bAlloc (Below.refl _ _) (.cells #[.int .i64 x.1, .int .i64 x.2.1, .int .i64 x.2.2] 41)) (.cells #[.int .i64 x.1, .int .i64 x.2.1, .int .i64 x.2.2] 41))).kept hga hdj.symm.ne
          have hdj' := dj_app hdj oT (by first | (simp; done) | (simp; omega)) hda
          go_roundw
          case rel => exact ⟨k + 1, z + 1, D', q', y1, by omega, by go_num, rfl, rfl, by rw [HS.out]; exact oD', oT2, hdj'⟩
          case measure => simp [intOf]; omega
      · have hkn := Lib.hid (show k = n1 by omega)
        rw [hkn.out] at oD
        go_wp2
        go_ret2
        rw [HTl.out]
        exact Ret3B.mk_ oD HBR.out.size (HBR.out.trans ((ext_below _ _).mono HBR.out.size))
end Go.Proofs.Ytdmaildajmhicaa
