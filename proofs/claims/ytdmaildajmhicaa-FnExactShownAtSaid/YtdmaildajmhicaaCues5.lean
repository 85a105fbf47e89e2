/- ShownAt of the program and of the reference. Conditions: lengths below 2^40. -/
import Derived.Test.YtdmaildajmhicaaCues4
set_option linter.unusedVariables false
set_option linter.unusedSimpArgs false
set_option maxRecDepth 100000
namespace Go.Proofs.Ytdmaildajmhicaa
open Go.RowKit
def shStep (t : Int) (s : T3 × Bool) (q : T3) : T3 × Bool := if q.1 ≤ t then (q, true) else s
def shF (T : List T3) (t : Int) (k : Nat) : T3 × Bool := (T.take k).foldl (shStep t) (z3, false)
theorem shF_succ (T : List T3) (t : Int) (k : Nat) (h : k < T.length) : shF T t (k + 1) = shStep t (shF T t k) (T[k]?.getD z3) := by
  rw [shF, take_succ_getD z3 T k h, List.foldl_append]; rfl
theorem shF_kind {T : List T3} (hT : ∀ q ∈ T, cueOk q) (t : Int) (k : Nat) : (shF T t k).2 = decide (0 < (shF T t k).1.2.1) ∧ 0 ≤ (shF T t k).1.2.1 ∧ (shF T t k).1.2.1 ≤ 4 := by
  have gen : ∀ (M : List T3) (s : T3 × Bool), (∀ q ∈ M, cueOk q) → (s.2 = decide (0 < s.1.2.1) ∧ 0 ≤ s.1.2.1 ∧ s.1.2.1 ≤ 4) → ((M.foldl (shStep t) s).2 = decide (0 < (M.foldl (shStep t) s).1.2.1) ∧ 0 ≤ (M.foldl (shStep t) s).1.2.1 ∧ (M.foldl (shStep t) s).1.2.1 ≤ 4) := by
    intro M
    induction M with
    | nil => intro s _ h; exact h
    | cons q r ih =>
      intro s hM h
      refine ih _ (fun x hx => hM x (List.mem_cons_of_mem _ hx)) ?_
      have hq := (hM q List.mem_cons_self).2
      unfold shStep; split
      · exact ⟨(decide_eq_true (show 0 < q.2.1 by omega)).symm, by show 0 ≤ q.2.1; omega, hq.2⟩
      · exact h
  exact gen _ _ (fun q hq => hT q (List.mem_of_mem_take hq)) ⟨rfl, by decide, by decide⟩
def shG (l : List (Int × Int)) (a b c gap t : Int) : Bool := timedB l a b c gap && inB t 0 200000
def shP (l : List (Int × Int)) (a b c gap t : Int) : T3 × Bool := if shG l a b c gap t then shF (cuT l a b c gap) t (cuT l a b c gap).length else (z3, false)
def RetCB (w : World) (v : T3) (ok : Bool) (e : Ending) (w' : World) : Prop := ∃ x, e = .returned (.tuple #[.agg #[.int .i64 v.1, .int .i64 v.2.1, .int .i64 v.2.2], .bool ok]) ∧ w' = ext w x
theorem RetCB.mk_ {w W : World} {v : T3} {ok ok' : Bool} (hk : ok = ok') (hb : Below w.heap.size w W) : RetCB w v ok' (.returned (.tuple #[.agg #[.int .i64 v.1, .int .i64 v.2.1, .int .i64 v.2.2], .bool ok])) W := by
  obtain ⟨x, rfl⟩ := ext_ex hb
  exact ⟨x, by rw [hk], rfl⟩
set_option maxHeartbeats 4000000 in
theorem specShownAt_any (w : World) (L : Option Addr) (n cl : Nat) (l : List (Int × Int)) (a b c gap t : Int) (hl : RdS w L n l) (hn : n ≤ 1099511627776) :
    Calls Try.prog 24 #[.slice L n cl, .agg #[.int .i64 a, .int .i64 b, .int .i64 c, .int .i64 gap], .int .i64 t] w (RetCB w (shP l a b c gap t).1 (shP l a b c gap t).2) := by
  have cG := fun w' h => tiGood_any w' L n cl l a b c gap h hn
  cases hk : shG l a b c gap t
  · rw [show shP l a b c gap t = (z3, false) by simp [shP, hk]]
    unfold shG at hk
    go_enter Try.func24, Try.ntmps24
    go_wp2_with (first | (go_at_call 47; ((with_reducible refine (cG _ (hl.below (by repeat (first | exact Below.refl _ _ | assumption | refine bExt ?_ _ | refine bAlloc ?_ _ | refine bDrewN ?_ _ | refine bDrew ?_ | refine bSet ?_ (by first | exact Nat.le_refl _ | omega | (simp; done) | (simp; omega)) _)))).mono ?_); rintro e w' ⟨rfl, x, rfl⟩)) | (go_at_call 48; ((with_reducible refine (tiClock_any _ _).mono ?_); rintro e w' ⟨rfl, rfl⟩)))
    all_goals first | exact bodyPost_ret (v := .tuple #[.agg #[.int .i64 0, .int .i64 0, .int .i64 0], .bool false]) (by simp [results, Try.results24, go_sem]) rfl (RetCB.mk_ (v := z3) rfl (by repeat (first | exact Below.refl _ _ | assumption | refine bExt ?_ _ | refine bAlloc ?_ _ | refine bDrewN ?_ _ | refine bDrew ?_ | refine bSet ?_ (by first | exact Nat.le_refl _ | omega | (simp; done) | (simp; omega)) _))) | (exfalso; simp_all)
  · rw [show shP l a b c gap t = shF (cuT l a b c gap) t (cuT l a b c gap).length by simp [shP, hk]]
    simp only [shG, Bool.and_eq_true] at hk
    obtain ⟨ht, htt⟩ := hk
    rw [ht] at cG
    have cC := fun w' h => srCues_any w' L n cl l a b c gap h hn ht
    have HK := Lib.hid (fun k => shF_kind (cuT_ok ht) t k)
    have hTle := cuT_len ht
    generalize cuT l a b c gap = T at *
    clear ht
    go_enter Try.func24, Try.ntmps24
    go_wp2_with (first | (go_at_call 47; ((with_reducible refine (cG _ (hl.below (by repeat (first | exact Below.refl _ _ | assumption | refine bExt ?_ _ | refine bAlloc ?_ _ | refine bDrewN ?_ _ | refine bDrew ?_ | refine bSet ?_ (by first | exact Nat.le_refl _ | omega | (simp; done) | (simp; omega)) _)))).mono ?_); rintro e w' ⟨rfl, x, rfl⟩)) | (go_at_call 48; ((with_reducible refine (tiClock_any _ _).mono ?_); rintro e w' ⟨rfl, rfl⟩)) | (go_at_call 58; ((with_reducible refine (cC _ (hl.below (by repeat (first | exact Below.refl _ _ | assumption | refine bExt ?_ _ | refine bAlloc ?_ _ | refine bDrewN ?_ _ | refine bDrew ?_ | refine bSet ?_ (by first | exact Nat.le_refl _ | omega | (simp; done) | (simp; omega)) _)))).mono ?_); rintro e w' ⟨A1, n1, c1, x1, rfl, rfl, o1⟩)))
    have HTl := Lib.hid o1.len
    have o8 := (OwC.lit_ (Below.refl _ (ext ((w.alloc (.cells #[.int .i64 a, .int .i64 b, .int .i64 c, .int .i64 gap] 30)).alloc (.cells #[.int .i64 0, .int .i64 0, .int .i64 0] 41)) x)) [z3] (by simp [maxLen]) #[.int .i64 0, .int .i64 0, .int .i64 0] rfl).below (bExt (Below.refl _ _) x1)
    have oT0 : Ow3 41 ((ext ((w.alloc (.cells #[.int .i64 a, .int .i64 b, .int .i64 c, .int .i64 gap] 30)).alloc (.cells #[.int .i64 0, .int .i64 0, .int .i64 0] 41)) x).heap.size + 1) (ext ((ext ((w.alloc (.cells #[.int .i64 a, .int .i64 b, .int .i64 c, .int .i64 gap] 30)).alloc (.cells #[.int .i64 0, .int .i64 0, .int .i64 0] 41)) x).alloc (.cells #[.int .i64 0, .int .i64 0, .int .i64 0] 41)) x1) A1 n1 c1 T := o1.mono (by simp)
    have hBR : Below w.heap.size w (ext ((w.alloc (.cells #[.int .i64 a, .int .i64 b, .int .i64 c, .int .i64 gap] 30)).alloc (.cells #[.int .i64 0, .int .i64 0, .int .i64 0] 41)) x) := by repeat (first | exact Below.refl _ _ | assumption | refine bExt ?_ _ | refine bAlloc ?_ _ | refine bDrewN ?_ _ | refine bDrew ?_ | refine bSet ?_ (by first | exact Nat.le_refl _ | omega | (simp; done) | (simp; omega)) _)
    have hrc : ∀ i u, (((w.alloc (.cells #[.int .i64 a, .int .i64 b, .int .i64 c, .int .i64 gap] 30)).alloc (.cells #[.int .i64 0, .int .i64 0, .int .i64 0] 41))).cell? ⟨w.heap.size + 1, i, none⟩ = some u → (ext ((w.alloc (.cells #[.int .i64 a, .int .i64 b, .int .i64 c, .int .i64 gap] 30)).alloc (.cells #[.int .i64 0, .int .i64 0, .int .i64 0] 41)) x).cell? ⟨w.heap.size + 1, i, none⟩ = some u := fun i u h => by rw [ext_cell _ _ _ _ _ (by simp)]; exact h
    have hr0 := Lib.hid (hrc 0 (.int .i64 0) (by simp [go_sem]))
    have hr1 := Lib.hid (hrc 1 (.int .i64 0) (by simp [go_sem]))
    have hr2 := Lib.hid (hrc 2 (.int .i64 0) (by simp [go_sem]))
    have hrf : ∀ i, (ext ((w.alloc (.cells #[.int .i64 a, .int .i64 b, .int .i64 c, .int .i64 gap] 30)).alloc (.cells #[.int .i64 0, .int .i64 0, .int .i64 0] 41)) x).frozen? ⟨w.heap.size + 1, i, none⟩ = false := fun i => by rw [ext_frozen _ _ _ _ _ (by simp)]; simp [go_sem]
    have HRF := Lib.hid hrf
    have hgr : w.heap.size + 1 < (ext ((w.alloc (.cells #[.int .i64 a, .int .i64 b, .int .i64 c, .int .i64 gap] 30)).alloc (.cells #[.int .i64 0, .int .i64 0, .int .i64 0] 41)) x).heap.size := by have := ext_le ((w.alloc (.cells #[.int .i64 a, .int .i64 b, .int .i64 c, .int .i64 gap] 30)).alloc (.cells #[.int .i64 0, .int .i64 0, .int .i64 0] 41)) x; simp at this; omega
    have HBR := Lib.hid hBR
    have HB0 := Lib.hid (show Below (ext ((w.alloc (.cells #[.int .i64 a, .int .i64 b, .int .i64 c, .int .i64 gap] 30)).alloc (.cells #[.int .i64 0, .int .i64 0, .int .i64 0] 41)) x).heap.size (ext ((w.alloc (.cells #[.int .i64 a, .int .i64 b, .int .i64 c, .int .i64 gap] 30)).alloc (.cells #[.int .i64 0, .int .i64 0, .int .i64 0] 41)) x) (ext ((ext ((w.alloc (.cells #[.int .i64 a, .int .i64 b, .int .i64 c, .int .i64 gap] 30)).alloc (.cells #[.int .i64 0, .int .i64 0, .int .i64 0] 41)) x).alloc (.cells #[.int .i64 0, .int .i64 0, .int .i64 0] 41)) x1) from by repeat (first | exact Below.refl _ _ | assumption | refine bExt ?_ _ | refine bAlloc ?_ _ | refine bDrewN ?_ _ | refine bDrew ?_ | refine bSet ?_ (by first | exact Nat.le_refl _ | omega | (simp; done) | (simp; omega)) _))
    clear hrc hrf hBR o1 cG cC
    generalize (ext ((w.alloc (.cells #[.int .i64 a, .int .i64 b, .int .i64 c, .int .i64 gap] 30)).alloc (.cells #[.int .i64 0, .int .i64 0, .int .i64 0] 41)) x) = R0 at *
    generalize ext (R0.alloc (.cells #[.int .i64 0, .int .i64 0, .int .i64 0] 41)) x1 = W8 at *
    have h8l : R0.heap.size < W8.heap.size := (o8.blk (g := R0.heap.size) rfl).2
    go_loopw [26] (fun i wr => ∃ k : Nat, k ≤ n1 ∧ i = .int .i64 k ∧ Hid (Below R0.heap.size R0 wr) ∧ Ow3 41 R0.heap.size wr (some ⟨R0.heap.size, 0, none⟩) 1 1 [(shF T t k).1] ∧ Ow3 41 (R0.heap.size + 1) wr A1 n1 c1 T) (fun i _ => n1 - (intOf i).toNat)
    case atStart => exact ⟨0, by omega, rfl,  HB0, o8, oT0⟩
    case round =>
      clear o8 oT0 HB0
      obtain ⟨k, hk, rfl,  HB, o8, oT⟩ := hrel
      have h80 := o8.cell_ 0 (by omega)
      have h8f := o8.frozen_ 0
      have h8f1 := o8.frozen_ 1
      have h8f2 := o8.frozen_ 2
      simp only [Nat.zero_mul, Nat.zero_add, List.getElem?_cons_zero, Option.getD_some] at h80
      obtain ⟨h80, h81, h82⟩ := h80
      have h8l := (o8.blk (g := R0.heap.size) rfl).2
      have hnA : blkOf A1 = none ∨ blkOf A1 ≠ some R0.heap.size := by
        cases hA : blkOf A1 with
        | none => exact .inl rfl
        | some g => exact .inr (fun e => by injection e with e; have := (oT.blk hA).1; omega)
      have hn160 : n1 ≤ 160 := by rw [← HTl.out]; exact hTle
      by_cases hlt : k < n1
      · obtain ⟨g, rfl, hg1, hg2⟩ := oT.form_ (by omega)
        obtain ⟨hc0, hc1, hc2⟩ := oT.cell_ k hlt
        have HS := Lib.hid (shF_succ T t k (by rw [HTl.out]; exact hlt))
        generalize T[k]?.getD z3 = x at *
        generalize shF T t k = F0 at *
        obtain ⟨fv, fb⟩ := F0
        have oT1 := oT.below (bAlloc (Below.refl _ _) (.cells #[.int .i64 x.1, .int .i64 x.2.1, .int .i64 x.2.2] 41))
        have o81 := o8.below (bAlloc (Below.refl _ _) (.cells #[.int .i64 x.1, .int .i64 x.2.1, .int .i64 x.2.2] 41))
        by_cases hx : x.1 ≤ t
        · have HV := Lib.hid (HS.out.trans (if_pos hx))
          have hst := o8.storedC 0 (by omega) x
          have Hst := Lib.hid hst
          clear hst
          go_wp2
          go_roundw
          case rel =>
            have hB1 := HB.out.grown Hst.out.2 HB.out.size (fun k hk => by injection hk with hk; omega)
            exact ⟨k + 1, by omega, by go_num,  hB1.trans ((bAlloc (Below.refl _ _) (.cells #[.int .i64 x.1, .int .i64 x.2.1, .int .i64 x.2.2] 41)).mono hB1.size), by rw [HV.out]; exact Hst.out.1.below (bAlloc (Below.refl _ _) (.cells #[.int .i64 x.1, .int .i64 x.2.1, .int .i64 x.2.2] 41)), (oT.kept Hst.out.2 hnA).below (bAlloc (Below.refl _ _) (.cells #[.int .i64 x.1, .int .i64 x.2.1, .int .i64 x.2.2] 41))⟩
          case measure => simp [intOf]; omega
        · have HV := Lib.hid (HS.out.trans (if_neg hx))
          go_wp2
          go_roundw
          case rel => exact ⟨k + 1, by omega, by go_num,  HB.out.trans ((bAlloc (Below.refl _ _) (.cells #[.int .i64 x.1, .int .i64 x.2.1, .int .i64 x.2.2] 41)).mono HB.out.size), by rw [HV.out]; exact o81, oT1⟩
          case measure => simp [intOf]; omega
      · have hkn := Lib.hid (show k = n1 by omega)
        have q0 := (HB.out.cell (p := ⟨w.heap.size + 1, 0, none⟩) hgr).trans hr0.out
        have q1 := (HB.out.cell (p := ⟨w.heap.size + 1, 1, none⟩) hgr).trans hr1.out
        have q2 := (HB.out.cell (p := ⟨w.heap.size + 1, 2, none⟩) hgr).trans hr2.out
        have p0 := (HB.out.frozen (p := ⟨w.heap.size + 1, 0, none⟩) hgr).trans (HRF.out 0)
        have p1 := (HB.out.frozen (p := ⟨w.heap.size + 1, 1, none⟩) hgr).trans (HRF.out 1)
        have p2 := (HB.out.frozen (p := ⟨w.heap.size + 1, 2, none⟩) hgr).trans (HRF.out 2)
        have HKk := HK.out k
        have hkf : (shF T t T.length) = (shF T t k) := by rw [HTl.out, hkn.out]
        obtain ⟨F0, hF0⟩ : ∃ F0, shF T t k = F0 := ⟨_, rfl⟩
        rw [hF0] at hkf HKk h80 h81 h82
        obtain ⟨fv, fb⟩ := F0
        have HKF := Lib.hid hkf
        simp only at HKk h80 h81 h82
        have HKk := Lib.hid HKk
        clear hF0 o8
        have hBw := HBR.out.trans (HB.out.mono HBR.out.size)
        have HBw := Lib.hid hBw
        clear hkf hBw
        go_wp2
        go_region
        all_goals
          go_wp2
          exact bodyPost_ret (v := .tuple #[.agg #[.int .i64 fv.1, .int .i64 fv.2.1, .int .i64 fv.2.2], .bool (decide (0 < fv.2.1))]) (by simp [results, Try.results24, go_sem, q0, q1, q2]) rfl (by rw [HKF.out]; exact RetCB.mk_ HKk.out.1.symm (by have := HBw.out; repeat (first | exact Below.refl _ _ | assumption | refine bExt ?_ _ | refine bAlloc ?_ _ | refine bDrewN ?_ _ | refine bDrew ?_ | refine bSet ?_ (by first | exact Nat.le_refl _ | omega | (simp; done) | (simp; omega)) _)))
set_option maxHeartbeats 4000000 in
theorem implShownAt_any (w : World) (L : Option Addr) (n cl : Nat) (l : List (Int × Int)) (a b c gap t : Int) (hl : RdS w L n l) (hn : n ≤ 1099511627776) (hnc : n ≤ cl) :
    Calls Try.prog 25 #[.slice L n cl, .agg #[.int .i64 a, .int .i64 b, .int .i64 c, .int .i64 gap], .int .i64 t] w (RetCB w (shP l a b c gap t).1 (shP l a b c gap t).2) := by
  have cG := fun w' h => areTimed_any w' L n cl l a b c gap h hn hnc
  cases hk : shG l a b c gap t
  · rw [show shP l a b c gap t = (z3, false) by simp [shP, hk]]
    unfold shG at hk
    go_enter Try.func25, Try.ntmps25
    go_wp2_with (first | (go_at_call 51; ((with_reducible refine (cG _ (hl.below (by repeat (first | exact Below.refl _ _ | assumption | refine bExt ?_ _ | refine bAlloc ?_ _ | refine bDrewN ?_ _ | refine bDrew ?_ | refine bSet ?_ (by first | exact Nat.le_refl _ | omega | (simp; done) | (simp; omega)) _)))).mono ?_); rintro e w' ⟨rfl, x, rfl⟩)) | (go_at_call 52; ((with_reducible refine (isDayTime_any _ _).mono ?_); rintro e w' ⟨rfl, rfl⟩)))
    all_goals first | exact bodyPost_ret (v := .tuple #[.agg #[.int .i64 0, .int .i64 0, .int .i64 0], .bool false]) (by simp [results, Try.results25, go_sem]) rfl (RetCB.mk_ (v := z3) rfl (by repeat (first | exact Below.refl _ _ | assumption | refine bExt ?_ _ | refine bAlloc ?_ _ | refine bDrewN ?_ _ | refine bDrew ?_ | refine bSet ?_ (by first | exact Nat.le_refl _ | omega | (simp; done) | (simp; omega)) _))) | (exfalso; simp_all)
  · rw [show shP l a b c gap t = shF (cuT l a b c gap) t (cuT l a b c gap).length by simp [shP, hk]]
    simp only [shG, Bool.and_eq_true] at hk
    obtain ⟨ht, htt⟩ := hk
    rw [ht] at cG
    have cC := fun w' h => cuesOf_any w' L n cl l a b c gap h hn ht
    have HK := Lib.hid (fun k => shF_kind (cuT_ok ht) t k)
    have hTle := cuT_len ht
    generalize cuT l a b c gap = T at *
    clear ht
    go_enter Try.func25, Try.ntmps25
    go_wp2_with (first | (go_at_call 51; ((with_reducible refine (cG _ (hl.below (by repeat (first | exact Below.refl _ _ | assumption | refine bExt ?_ _ | refine bAlloc ?_ _ | refine bDrewN ?_ _ | refine bDrew ?_ | refine bSet ?_ (by first | exact Nat.le_refl _ | omega | (simp; done) | (simp; omega)) _)))).mono ?_); rintro e w' ⟨rfl, x, rfl⟩)) | (go_at_call 52; ((with_reducible refine (isDayTime_any _ _).mono ?_); rintro e w' ⟨rfl, rfl⟩)) | (go_at_call 59; ((with_reducible refine (cC _ (hl.below (by repeat (first | exact Below.refl _ _ | assumption | refine bExt ?_ _ | refine bAlloc ?_ _ | refine bDrewN ?_ _ | refine bDrew ?_ | refine bSet ?_ (by first | exact Nat.le_refl _ | omega | (simp; done) | (simp; omega)) _)))).mono ?_); rintro e w' ⟨A1, n1, c1, x1, rfl, rfl, o1⟩)))
    have HTl := Lib.hid o1.len
    have o8 := (OwC.lit_ (Below.refl _ (ext ((w.alloc (.cells #[.int .i64 a, .int .i64 b, .int .i64 c, .int .i64 gap] 30)).alloc (.cells #[.int .i64 0, .int .i64 0, .int .i64 0] 41)) x)) [z3] (by simp [maxLen]) #[.int .i64 0, .int .i64 0, .int .i64 0] rfl).below (bExt (Below.refl _ _) x1)
    have oT0 : Ow3 41 ((ext ((w.alloc (.cells #[.int .i64 a, .int .i64 b, .int .i64 c, .int .i64 gap] 30)).alloc (.cells #[.int .i64 0, .int .i64 0, .int .i64 0] 41)) x).heap.size + 1) (ext ((ext ((w.alloc (.cells #[.int .i64 a, .int .i64 b, .int .i64 c, .int .i64 gap] 30)).alloc (.cells #[.int .i64 0, .int .i64 0, .int .i64 0] 41)) x).alloc (.cells #[.int .i64 0, .int .i64 0, .int .i64 0] 41)) x1) A1 n1 c1 T := o1.mono (by simp)
    have hBR : Below w.heap.size w (ext ((w.alloc (.cells #[.int .i64 a, .int .i64 b, .int .i64 c, .int .i64 gap] 30)).alloc (.cells #[.int .i64 0, .int .i64 0, .int .i64 0] 41)) x) := by repeat (first | exact Below.refl _ _ | assumption | refine bExt ?_ _ | refine bAlloc ?_ _ | refine bDrewN ?_ _ | refine bDrew ?_ | refine bSet ?_ (by first | exact Nat.le_refl _ | omega | (simp; done) | (simp; omega)) _)
    have hrc : ∀ i u, (((w.alloc (.cells #[.int .i64 a, .int .i64 b, .int .i64 c, .int .i64 gap] 30)).alloc (.cells #[.int .i64 0, .int .i64 0, .int .i64 0] 41))).cell? ⟨w.heap.size + 1, i, none⟩ = some u → (ext ((w.alloc (.cells #[.int .i64 a, .int .i64 b, .int .i64 c, .int .i64 gap] 30)).alloc (.cells #[.int .i64 0, .int .i64 0, .int .i64 0] 41)) x).cell? ⟨w.heap.size + 1, i, none⟩ = some u := fun i u h => by rw [ext_cell _ _ _ _ _ (by simp)]; exact h
    have hr0 := Lib.hid (hrc 0 (.int .i64 0) (by simp [go_sem]))
    have hr1 := Lib.hid (hrc 1 (.int .i64 0) (by simp [go_sem]))
    have hr2 := Lib.hid (hrc 2 (.int .i64 0) (by simp [go_sem]))
    have hrf : ∀ i, (ext ((w.alloc (.cells #[.int .i64 a, .int .i64 b, .int .i64 c, .int .i64 gap] 30)).alloc (.cells #[.int .i64 0, .int .i64 0, .int .i64 0] 41)) x).frozen? ⟨w.heap.size + 1, i, none⟩ = false := fun i => by rw [ext_frozen _ _ _ _ _ (by simp)]; simp [go_sem]
    have HRF := Lib.hid hrf
    have hgr : w.heap.size + 1 < (ext ((w.alloc (.cells #[.int .i64 a, .int .i64 b, .int .i64 c, .int .i64 gap] 30)).alloc (.cells #[.int .i64 0, .int .i64 0, .int .i64 0] 41)) x).heap.size := by have := ext_le ((w.alloc (.cells #[.int .i64 a, .int .i64 b, .int .i64 c, .int .i64 gap] 30)).alloc (.cells #[.int .i64 0, .int .i64 0, .int .i64 0] 41)) x; simp at this; omega
    have HBR := Lib.hid hBR
    have HB0 := Lib.hid (show Below (ext ((w.alloc (.cells #[.int .i64 a, .int .i64 b, .int .i64 c, .int .i64 gap] 30)).alloc (.cells #[.int .i64 0, .int .i64 0, .int .i64 0] 41)) x).heap.size (ext ((w.alloc (.cells #[.int .i64 a, .int .i64 b, .int .i64 c, .int .i64 gap] 30)).alloc (.cells #[.int .i64 0, .int .i64 0, .int .i64 0] 41)) x) (ext ((ext ((w.alloc (.cells #[.int .i64 a, .int .i64 b, .int .i64 c, .int .i64 gap] 30)).alloc (.cells #[.int .i64 0, .int .i64 0, .int .i64 0] 41)) x).alloc (.cells #[.int .i64 0, .int .i64 0, .int .i64 0] 41)) x1) from by repeat (first | exact Below.refl _ _ | assumption | refine bExt ?_ _ | refine bAlloc ?_ _ | refine bDrewN ?_ _ | refine bDrew ?_ | refine bSet ?_ (by first | exact Nat.le_refl _ | omega | (simp; done) | (simp; omega)) _))
    clear hrc hrf hBR o1 cG cC
    generalize (ext ((w.alloc (.cells #[.int .i64 a, .int .i64 b, .int .i64 c, .int .i64 gap] 30)).alloc (.cells #[.int .i64 0, .int .i64 0, .int .i64 0] 41)) x) = R0 at *
    generalize ext (R0.alloc (.cells #[.int .i64 0, .int .i64 0, .int .i64 0] 41)) x1 = W8 at *
    have h8l : R0.heap.size < W8.heap.size := (o8.blk (g := R0.heap.size) rfl).2
    go_loopw [9, 27] (fun b9 i wr => ∃ k : Nat, k ≤ n1 ∧ i = .int .i64 k ∧ b9 = .bool (shF T t k).2 ∧ Hid (Below R0.heap.size R0 wr) ∧ Ow3 41 R0.heap.size wr (some ⟨R0.heap.size, 0, none⟩) 1 1 [(shF T t k).1] ∧ Ow3 41 (R0.heap.size + 1) wr A1 n1 c1 T) (fun b9 i _ => n1 - (intOf i).toNat)
    case atStart => exact ⟨0, by omega, rfl, rfl, HB0, o8, oT0⟩
    case round =>
      clear o8 oT0 HB0
      obtain ⟨k, hk, rfl, rfl, HB, o8, oT⟩ := hrel
      have h80 := o8.cell_ 0 (by omega)
      have h8f := o8.frozen_ 0
      have h8f1 := o8.frozen_ 1
      have h8f2 := o8.frozen_ 2
      simp only [Nat.zero_mul, Nat.zero_add, List.getElem?_cons_zero, Option.getD_some] at h80
      obtain ⟨h80, h81, h82⟩ := h80
      have h8l := (o8.blk (g := R0.heap.size) rfl).2
      have hnA : blkOf A1 = none ∨ blkOf A1 ≠ some R0.heap.size := by
        cases hA : blkOf A1 with
        | none => exact .inl rfl
        | some g => exact .inr (fun e => by injection e with e; have := (oT.blk hA).1; omega)
      have hn160 : n1 ≤ 160 := by rw [← HTl.out]; exact hTle
      by_cases hlt : k < n1
      · obtain ⟨g, rfl, hg1, hg2⟩ := oT.form_ (by omega)
        obtain ⟨hc0, hc1, hc2⟩ := oT.cell_ k hlt
        have HS := Lib.hid (shF_succ T t k (by rw [HTl.out]; exact hlt))
        generalize T[k]?.getD z3 = x at *
        generalize shF T t k = F0 at *
        obtain ⟨fv, fb⟩ := F0
        have oT1 := oT.below (bAlloc (Below.refl _ _) (.cells #[.int .i64 x.1, .int .i64 x.2.1, .int .i64 x.2.2] 41))
        have o81 := o8.below (bAlloc (Below.refl _ _) (.cells #[.int .i64 x.1, .int .i64 x.2.1, .int .i64 x.2.2] 41))
        by_cases hx : x.1 ≤ t
        · have HV := Lib.hid (HS.out.trans (if_pos hx))
          have hst := o8.storedC 0 (by omega) x
          have Hst := Lib.hid hst
          clear hst
          go_wp2
          go_roundw
          case rel =>
            have hB1 := HB.out.grown Hst.out.2 HB.out.size (fun k hk => by injection hk with hk; omega)
            exact ⟨k + 1, by omega, by go_num, by rw [HV.out], hB1.trans ((bAlloc (Below.refl _ _) (.cells #[.int .i64 x.1, .int .i64 x.2.1, .int .i64 x.2.2] 41)).mono hB1.size), by rw [HV.out]; exact Hst.out.1.below (bAlloc (Below.refl _ _) (.cells #[.int .i64 x.1, .int .i64 x.2.1, .int .i64 x.2.2] 41)), (oT.kept Hst.out.2 hnA).below (bAlloc (Below.refl _ _) (.cells #[.int .i64 x.1, .int .i64 x.2.1, .int .i64 x.2.2] 41))⟩
          case measure => simp [intOf]; omega
        · have HV := Lib.hid (HS.out.trans (if_neg hx))
          go_wp2
          go_roundw
          case rel => exact ⟨k + 1, by omega, by go_num, by rw [HV.out], HB.out.trans ((bAlloc (Below.refl _ _) (.cells #[.int .i64 x.1, .int .i64 x.2.1, .int .i64 x.2.2] 41)).mono HB.out.size), by rw [HV.out]; exact o81, oT1⟩
          case measure => simp [intOf]; omega
      · have hkn := Lib.hid (show k = n1 by omega)
        have q0 := (HB.out.cell (p := ⟨w.heap.size + 1, 0, none⟩) hgr).trans hr0.out
        have q1 := (HB.out.cell (p := ⟨w.heap.size + 1, 1, none⟩) hgr).trans hr1.out
        have q2 := (HB.out.cell (p := ⟨w.heap.size + 1, 2, none⟩) hgr).trans hr2.out
        have p0 := (HB.out.frozen (p := ⟨w.heap.size + 1, 0, none⟩) hgr).trans (HRF.out 0)
        have p1 := (HB.out.frozen (p := ⟨w.heap.size + 1, 1, none⟩) hgr).trans (HRF.out 1)
        have p2 := (HB.out.frozen (p := ⟨w.heap.size + 1, 2, none⟩) hgr).trans (HRF.out 2)
        have HKk := HK.out k
        have hkf : (shF T t T.length) = (shF T t k) := by rw [HTl.out, hkn.out]
        obtain ⟨F0, hF0⟩ : ∃ F0, shF T t k = F0 := ⟨_, rfl⟩
        rw [hF0] at hkf HKk h80 h81 h82 ⊢
        obtain ⟨fv, fb⟩ := F0
        have HKF := Lib.hid hkf
        simp only at HKk h80 h81 h82
        have HKk := Lib.hid HKk
        clear hF0 o8
        have hBw := HBR.out.trans (HB.out.mono HBR.out.size)
        have HBw := Lib.hid hBw
        clear hkf hBw
        go_wp2
        exact bodyPost_ret (v := .tuple #[.agg #[.int .i64 fv.1, .int .i64 fv.2.1, .int .i64 fv.2.2], .bool fb]) (by simp [results, Try.results25, go_sem, q0, q1, q2]) rfl (by rw [HKF.out]; exact RetCB.mk_ rfl (by have := HBw.out; repeat (first | exact Below.refl _ _ | assumption | refine bExt ?_ _ | refine bAlloc ?_ _ | refine bDrewN ?_ _ | refine bDrew ?_ | refine bSet ?_ (by first | exact Nat.le_refl _ | omega | (simp; done) | (simp; omega)) _)))
end Go.Proofs.Ytdmaildajmhicaa
