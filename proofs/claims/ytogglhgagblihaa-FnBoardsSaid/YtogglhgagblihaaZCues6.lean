/- LeaderTimes of the program and of the reference. Conditions: lengths below 2^40. -/
import Derived.Test.YtogglhgagblihaaZCues4
import Derived.Test.YtogglhgagblihaaZLeadP
set_option linter.unusedVariables false
set_option linter.unusedSimpArgs false
set_option maxRecDepth 100000
namespace Go.Proofs.Ytogglhgagblihaa
open Go.RowKit
set_option maxHeartbeats 4000000 in
theorem specLeaderTimes_any (w : World) (L : Option Addr) (n cl : Nat) (l : List (Int × Int)) (a b c gap : Int) (A : Option Addr) (m cs : Nat) (S : List Int) (hl : RdS w L n l) (hn : n ≤ 1099511627776) (hr : RdI w A m S) (hm : m ≤ 1099511627776) :
    Calls Try.prog 37 #[.slice L n cl, .agg #[.int .i64 a, .int .i64 b, .int .i64 c, .int .i64 gap], .slice A m cs] w (RetIB w (ltV l a b c gap S) (scB l a b c gap S)) := by
  have cA := fun w' h1 h2 => srAsked_any w' L n cl l a b c gap A m cs S h1 hn h2 hm
  cases hsc : scB l a b c gap S
  · rw [show ltV l a b c gap S = [] by simp [ltV, hsc]]
    rw [hsc] at cA
    go_enter Try.func37, Try.ntmps37
    go_wp2_with (first | (go_at_call 85; ((with_reducible refine (cA _ (hl.below (by repeat (first | exact Below.refl _ _ | assumption | refine bExt ?_ _ | refine bAlloc ?_ _ | refine bDrewN ?_ _ | refine bDrew ?_ | refine bSet ?_ (by first | exact Nat.le_refl _ | omega | (simp; done) | (simp; omega)) _))) (hr.below (by repeat (first | exact Below.refl _ _ | assumption | refine bExt ?_ _ | refine bAlloc ?_ _ | refine bDrewN ?_ _ | refine bDrew ?_ | refine bSet ?_ (by first | exact Nat.le_refl _ | omega | (simp; done) | (simp; omega)) _)))).mono ?_); rintro e w' ⟨rfl, x, rfl⟩)))
    go_ret2
    exact RetIB.mk_ OwI.nil_ (Nat.le_refl _) (by repeat (first | exact Below.refl _ _ | assumption | refine bExt ?_ _ | refine bAlloc ?_ _ | refine bDrewN ?_ _ | refine bDrew ?_ | refine bSet ?_ (by first | exact Nat.le_refl _ | omega | (simp; done) | (simp; omega)) _))
  · rw [show ltV l a b c gap S = ltL l a b c gap S by simp [ltV, hsc]]
    rw [hsc] at cA
    obtain ⟨ht, hSl, hSb⟩ := scB_of hsc
    have hsl := (timedB_of ht).1
    have cC := fun w' h => srCues_any w' L n cl l a b c gap h hn ht
    have cL := fun w' t h1 h2 => srLeader_any w' L n cl l a b c gap t A m cs S h1 hn h2 hsc
    have hTle := cuT_len ht
    have HE := Lib.hid (show ltL l a b c gap S = (ltF (fun q => ldI (bdT l a b c gap S q.1)) (-1) (cuT l a b c gap) (cuT l a b c gap).length).1 from rfl)
    rw [HE.out]
    have HSt := fun k => Lib.hid (ltF_succ (fun q => ldI (bdT l a b c gap S q.1)) (-1) (cuT l a b c gap) k)
    have HLe := fun k => Lib.hid (ltF_len (fun q => ldI (bdT l a b c gap S q.1)) (-1) (cuT l a b c gap) k)
    clear ht hSl hSb HE hsl
    have HSt := Lib.hid HSt
    have HF0 : Hid (ltF (fun q => ldI (bdT l a b c gap S q.1)) (-1) (cuT l a b c gap) 0 = ([], (-1))) := rfl
    have HStep : Hid (∀ s q, ltStep (fun q => ldI (bdT l a b c gap S q.1)) s q = if q.2.1 = 4 ∧ (fun q => ldI (bdT l a b c gap S q.1)) q ≠ s.2 then (s.1 ++ [q.1], (fun q => ldI (bdT l a b c gap S q.1)) q) else s) := fun s q => rfl
    generalize cuT l a b c gap = T at *
    generalize hF : ltF (fun q => ldI (bdT l a b c gap S q.1)) (-1) T = F at *
    clear hF
    go_enter Try.func37, Try.ntmps37
    go_wp2_with (first | (go_at_call 85; ((with_reducible refine (cA _ (hl.below (by repeat (first | exact Below.refl _ _ | assumption | refine bExt ?_ _ | refine bAlloc ?_ _ | refine bDrewN ?_ _ | refine bDrew ?_ | refine bSet ?_ (by first | exact Nat.le_refl _ | omega | (simp; done) | (simp; omega)) _))) (hr.below (by repeat (first | exact Below.refl _ _ | assumption | refine bExt ?_ _ | refine bAlloc ?_ _ | refine bDrewN ?_ _ | refine bDrew ?_ | refine bSet ?_ (by first | exact Nat.le_refl _ | omega | (simp; done) | (simp; omega)) _)))).mono ?_); rintro e w' ⟨rfl, x, rfl⟩)) | (go_at_call 93; ((with_reducible refine (cC _ (hl.below (by repeat (first | exact Below.refl _ _ | assumption | refine bExt ?_ _ | refine bAlloc ?_ _ | refine bDrewN ?_ _ | refine bDrew ?_ | refine bSet ?_ (by first | exact Nat.le_refl _ | omega | (simp; done) | (simp; omega)) _)))).mono ?_); rintro e w' ⟨A1, n1, c1, x1, rfl, rfl, o1⟩)))
    have HTl := Lib.hid o1.len
    have hBR : Below w.heap.size w (ext (w.alloc (.cells #[.int .i64 a, .int .i64 b, .int .i64 c, .int .i64 gap] 25)) x) := by repeat (first | exact Below.refl _ _ | assumption | refine bExt ?_ _ | refine bAlloc ?_ _ | refine bDrewN ?_ _ | refine bDrew ?_ | refine bSet ?_ (by first | exact Nat.le_refl _ | omega | (simp; done) | (simp; omega)) _)
    have HBR := Lib.hid hBR
    have hlR := hl.below hBR
    have hrR := hr.below hBR
    have hcd : ∀ i u, (w.alloc (.cells #[.int .i64 a, .int .i64 b, .int .i64 c, .int .i64 gap] 25)).cell? ⟨w.heap.size, i, none⟩ = some u → (ext (w.alloc (.cells #[.int .i64 a, .int .i64 b, .int .i64 c, .int .i64 gap] 25)) x).cell? ⟨w.heap.size, i, none⟩ = some u := fun i u h => by rw [ext_cell _ _ _ _ _ (by simp)]; exact h
    have hd0 := hcd 0 (.int .i64 a) (by simp [go_sem])
    have hd1 := hcd 1 (.int .i64 b) (by simp [go_sem])
    have hd2 := hcd 2 (.int .i64 c) (by simp [go_sem])
    have hd3 := hcd 3 (.int .i64 gap) (by simp [go_sem])
    have hgl : w.heap.size < (ext (w.alloc (.cells #[.int .i64 a, .int .i64 b, .int .i64 c, .int .i64 gap] 25)) x).heap.size := by have := ext_le (w.alloc (.cells #[.int .i64 a, .int .i64 b, .int .i64 c, .int .i64 gap] 25)) x; simp at this; omega
    clear hcd
    have oT0 := o1.mono (Nat.le_refl _)
    clear o1 hBR cA cC
    generalize (ext (w.alloc (.cells #[.int .i64 a, .int .i64 b, .int .i64 c, .int .i64 gap] 25)) x) = R at *
    go_loopw [8, 9, 22] (fun v s i wr => ∃ (k z : Nat) (D : Option Addr) (q : Nat) (y : World), (k ≤ n1 ∧ z ≤ k) ∧ i = .int .i64 k ∧ v = .slice D z q ∧ s = .int .i64 (F k).2 ∧ wr = ext R y ∧ OwI R.heap.size (ext R y) D z q (F k).1 ∧ Ow3 96 R.heap.size (ext R y) A1 n1 c1 T ∧ Dj D A1) (fun _ _ i _ => n1 - (intOf i).toNat)
    case atStart =>
      have hF1 : (F 0).1 = [] := by rw [HF0.out]
      have hF2 : (F 0).2 = (-1) := by rw [HF0.out]
      exact ⟨0, 0, none, 0, x1, by omega, rfl, rfl, by rw [hF2], rfl, by rw [hF1]; exact OwI.nil_, oT0, Dj.nil_⟩
    case round =>
      obtain ⟨k, z, D, q, y, ⟨hk, hzk⟩, rfl, rfl, rfl, rfl, oD, oT, hdj⟩ := hrel
      by_cases hlt : k < n1
      · obtain ⟨g, rfl, hg1, hg2⟩ := oT.form_ (by omega)
        obtain ⟨hc0, hc1, hc2⟩ := oT.cell_ k hlt
        have hn160 : n1 ≤ 160 := by rw [← HTl.out]; exact hTle
        have HS := Lib.hid ((HSt.out k).out (by rw [HTl.out]; exact hlt))
        unfold Hid at HS
        rw [HStep.out] at HS
        generalize T[k]?.getD z3 = x at *
        generalize F k = F0 at *
        obtain ⟨fo, fs⟩ := F0
        replace HS := Lib.hid HS
        by_cases h4 : x.2.1 = 4
        · have hkb : (x.2.1 != 4) = false := by simp [h4]
          have cc := fun w' h1 h2 => cL w' x.1 h1 h2
          obtain ⟨ld, hld⟩ : ∃ ld, ldI (bdT l a b c gap S x.1) = ld := ⟨_, rfl⟩
          unfold Hid at HS
          simp only [hld] at cc HS
          by_cases hdf : ld = fs
          · have hnb : (ld != fs) = false := by simp [hdf]
            have HS := Lib.hid (HS.trans (if_neg (fun h => h.2 hdf)))
            clear hdf h4
            go_wp2_with (first | (go_at_call 88; ((with_reducible refine (cc _ (hlR.below (by repeat (first | exact Below.refl _ _ | assumption | refine bExt ?_ _ | refine bAlloc ?_ _ | refine bDrewN ?_ _ | refine bDrew ?_ | refine bSet ?_ (by first | exact Nat.le_refl _ | omega | (simp; done) | (simp; omega)) _))) (hrR.below (by repeat (first | exact Below.refl _ _ | assumption | refine bExt ?_ _ | refine bAlloc ?_ _ | refine bDrewN ?_ _ | refine bDrew ?_ | refine bSet ?_ (by first | exact Nat.le_refl _ | omega | (simp; done) | (simp; omega)) _)))).mono ?_); rintro e w' ⟨rfl, x2, rfl⟩)))
            obtain ⟨y', hy⟩ := ext_ex (show Below R.heap.size R (ext ((ext R y).alloc (.cells #[.int .i64 x.1, .int .i64 x.2.1, .int .i64 x.2.2] 96)) x2) from by repeat (first | exact Below.refl _ _ | assumption | refine bExt ?_ _ | refine bAlloc ?_ _ | refine bDrewN ?_ _ | refine bDrew ?_ | refine bSet ?_ (by first | exact Nat.le_refl _ | omega | (simp; done) | (simp; omega)) _))
            have oD' := oD.below (bExt (bAlloc (Below.refl _ _) (.cells #[.int .i64 x.1, .int .i64 x.2.1, .int .i64 x.2.2] 96)) x2)
            have oT' := oT.below (bExt (bAlloc (Below.refl _ _) (.cells #[.int .i64 x.1, .int .i64 x.2.1, .int .i64 x.2.2] 96)) x2)
            rw [hy] at oD' oT'
            go_roundw
            case rel => exact ⟨k + 1, z, D, q, y', by omega, by go_num, rfl, by rw [HS.out], hy, by rw [HS.out]; exact oD', oT', hdj⟩
            case measure => simp [intOf]; omega
          · have hnb : (ld != fs) = true := by simp [hdf]
            have HS := Lib.hid (HS.trans (if_pos ⟨h4, hdf⟩))
            have hzb : z ≤ 1099511627776 := by omega
            clear hdf h4
            go_wp2_with (first | (go_at_call 88; ((with_reducible refine (cc _ (hlR.below (by repeat (first | exact Below.refl _ _ | assumption | refine bExt ?_ _ | refine bAlloc ?_ _ | refine bDrewN ?_ _ | refine bDrew ?_ | refine bSet ?_ (by first | exact Nat.le_refl _ | omega | (simp; done) | (simp; omega)) _))) (hrR.below (by repeat (first | exact Below.refl _ _ | assumption | refine bExt ?_ _ | refine bAlloc ?_ _ | refine bDrewN ?_ _ | refine bDrew ?_ | refine bSet ?_ (by first | exact Nat.le_refl _ | omega | (simp; done) | (simp; omega)) _)))).mono ?_); rintro e w' ⟨rfl, x2, rfl⟩)) | (at_builtin; (refine wpl_push_int R _ _ _ ?_ rfl _ _ rfl D z q _ rfl oD ?_ ?_ rfl hzb ?_); (focus (first | rfl | (simp; done))); (focus (repeat (first | exact Below.refl _ _ | assumption | refine bExt ?_ _ | refine bAlloc ?_ _ | refine bDrewN ?_ _ | refine bDrew ?_ | refine bSet ?_ (by first | exact Nat.le_refl _ | omega | (simp; done) | (simp; omega)) _))); (focus (repeat (first | exact Below.refl _ _ | assumption | refine bExt ?_ _ | refine bAlloc ?_ _ | refine bDrewN ?_ _ | refine bDrew ?_ | refine bSet ?_ (by first | exact Nat.le_refl _ | omega | (simp; done) | (simp; omega)) _))); intro D' q' y1 oD' hga hda))
            have oT2 := (oT.below (bExt (bAlloc (Below.refl _ _) (.cells #[.int .i64 x.1, .int .i64 x.2.1, .int .i64 x.2.2] 96)) x2)).kept hga hdj.symm.ne
            have hdj' := Dj.push hdj (oT.below (bExt (bAlloc (Below.refl _ _) (.cells #[.int .i64 x.1, .int .i64 x.2.1, .int .i64 x.2.2] 96)) x2)) hda
            go_roundw
            case rel => exact ⟨k + 1, z + 1, D', q', y1, by omega, by go_num, rfl, by rw [HS.out], rfl, by rw [HS.out]; exact oD', oT2, hdj'⟩
            case measure => simp [intOf]; omega
        · have hkb : (x.2.1 != 4) = true := by simp [h4]
          have HS := Lib.hid (HS.out.trans (if_neg (fun h => h4 h.1)))
          clear h4
          go_wp2
          obtain ⟨y', hy⟩ := ext_ex (show Below R.heap.size R ((ext R y).alloc (.cells #[.int .i64 x.1, .int .i64 x.2.1, .int .i64 x.2.2] 96)) from by repeat (first | exact Below.refl _ _ | assumption | refine bExt ?_ _ | refine bAlloc ?_ _ | refine bDrewN ?_ _ | refine bDrew ?_ | refine bSet ?_ (by first | exact Nat.le_refl _ | omega | (simp; done) | (simp; omega)) _))
          have oD' := oD.below (bAlloc (Below.refl _ _) (.cells #[.int .i64 x.1, .int .i64 x.2.1, .int .i64 x.2.2] 96))
          have oT' := oT.below (bAlloc (Below.refl _ _) (.cells #[.int .i64 x.1, .int .i64 x.2.1, .int .i64 x.2.2] 96))
          rw [hy] at oD' oT'
          go_roundw
          case rel => exact ⟨k + 1, z, D, q, y', by omega, by go_num, rfl, by rw [HS.out], hy, by rw [HS.out]; exact oD', oT', hdj⟩
          case measure => simp [intOf]; omega
      · have hkn := Lib.hid (show k = n1 by omega)
        rw [hkn.out] at oD
        go_wp2
        go_ret2
        rw [HTl.out]
        exact RetIB.mk_ oD HBR.out.size (HBR.out.trans ((ext_below _ _).mono HBR.out.size))
set_option maxHeartbeats 4000000 in
theorem implLeaderTimes_any (w : World) (L : Option Addr) (n cl : Nat) (l : List (Int × Int)) (a b c gap : Int) (A : Option Addr) (m cs : Nat) (S : List Int) (hl : RdS w L n l) (hn : n ≤ 1099511627776) (hr : RdI w A m S) (hm : m ≤ 1099511627776) (hnc : n ≤ cl) :
    Calls Try.prog 36 #[.slice L n cl, .agg #[.int .i64 a, .int .i64 b, .int .i64 c, .int .i64 gap], .slice A m cs] w (RetIB w (ltV l a b c gap S) (scB l a b c gap S)) := by
  have cA := fun w' h1 h2 => areScored_any w' L n cl l a b c gap A m cs S h1 hn h2 hm hnc
  cases hsc : scB l a b c gap S
  · rw [show ltV l a b c gap S = [] by simp [ltV, hsc]]
    rw [hsc] at cA
    go_enter Try.func36, Try.ntmps36
    go_wp2_with (first | (go_at_call 83; ((with_reducible refine (cA _ (hl.below (by repeat (first | exact Below.refl _ _ | assumption | refine bExt ?_ _ | refine bAlloc ?_ _ | refine bDrewN ?_ _ | refine bDrew ?_ | refine bSet ?_ (by first | exact Nat.le_refl _ | omega | (simp; done) | (simp; omega)) _))) (hr.below (by repeat (first | exact Below.refl _ _ | assumption | refine bExt ?_ _ | refine bAlloc ?_ _ | refine bDrewN ?_ _ | refine bDrew ?_ | refine bSet ?_ (by first | exact Nat.le_refl _ | omega | (simp; done) | (simp; omega)) _)))).mono ?_); rintro e w' ⟨rfl, x, rfl⟩)))
    go_ret2
    exact RetIB.mk_ OwI.nil_ (Nat.le_refl _) (by repeat (first | exact Below.refl _ _ | assumption | refine bExt ?_ _ | refine bAlloc ?_ _ | refine bDrewN ?_ _ | refine bDrew ?_ | refine bSet ?_ (by first | exact Nat.le_refl _ | omega | (simp; done) | (simp; omega)) _))
  · rw [show ltV l a b c gap S = ltL l a b c gap S by simp [ltV, hsc]]
    rw [hsc] at cA
    obtain ⟨ht, hSl, hSb⟩ := scB_of hsc
    have hsl := (timedB_of ht).1
    have cC := fun w' h => cuesOf_any w' L n cl l a b c gap h hn ht
    have cL := fun w' t h1 h2 => leaderAt_any w' L n cl l a b c gap t A m cs S h1 hn h2 hsc
    have hTle := cuT_len ht
    have HE := Lib.hid (show ltL l a b c gap S = (ltF (fun q => ldS l (bdT l a b c gap S q.1)) 0 (cuT l a b c gap) (cuT l a b c gap).length).1 from (ltL_imp hsl).symm)
    rw [HE.out]
    have HSt := fun k => Lib.hid (ltF_succ (fun q => ldS l (bdT l a b c gap S q.1)) 0 (cuT l a b c gap) k)
    have HLe := fun k => Lib.hid (ltF_len (fun q => ldS l (bdT l a b c gap S q.1)) 0 (cuT l a b c gap) k)
    clear ht hSl hSb HE hsl
    have HSt := Lib.hid HSt
    have HF0 : Hid (ltF (fun q => ldS l (bdT l a b c gap S q.1)) 0 (cuT l a b c gap) 0 = ([], 0)) := rfl
    have HStep : Hid (∀ s q, ltStep (fun q => ldS l (bdT l a b c gap S q.1)) s q = if q.2.1 = 4 ∧ (fun q => ldS l (bdT l a b c gap S q.1)) q ≠ s.2 then (s.1 ++ [q.1], (fun q => ldS l (bdT l a b c gap S q.1)) q) else s) := fun s q => rfl
    generalize cuT l a b c gap = T at *
    generalize hF : ltF (fun q => ldS l (bdT l a b c gap S q.1)) 0 T = F at *
    clear hF
    go_enter Try.func36, Try.ntmps36
    go_wp2_with (first | (go_at_call 83; ((with_reducible refine (cA _ (hl.below (by repeat (first | exact Below.refl _ _ | assumption | refine bExt ?_ _ | refine bAlloc ?_ _ | refine bDrewN ?_ _ | refine bDrew ?_ | refine bSet ?_ (by first | exact Nat.le_refl _ | omega | (simp; done) | (simp; omega)) _))) (hr.below (by repeat (first | exact Below.refl _ _ | assumption | refine bExt ?_ _ | refine bAlloc ?_ _ | refine bDrewN ?_ _ | refine bDrew ?_ | refine bSet ?_ (by first | exact Nat.le_refl _ | omega | (simp; done) | (simp; omega)) _)))).mono ?_); rintro e w' ⟨rfl, x, rfl⟩)) | (go_at_call 92; ((with_reducible refine (cC _ (hl.below (by repeat (first | exact Below.refl _ _ | assumption | refine bExt ?_ _ | refine bAlloc ?_ _ | refine bDrewN ?_ _ | refine bDrew ?_ | refine bSet ?_ (by first | exact Nat.le_refl _ | omega | (simp; done) | (simp; omega)) _)))).mono ?_); rintro e w' ⟨A1, n1, c1, x1, rfl, rfl, o1⟩)))
    have HTl := Lib.hid o1.len
    have hBR : Below w.heap.size w (ext (w.alloc (.cells #[.int .i64 a, .int .i64 b, .int .i64 c, .int .i64 gap] 25)) x) := by repeat (first | exact Below.refl _ _ | assumption | refine bExt ?_ _ | refine bAlloc ?_ _ | refine bDrewN ?_ _ | refine bDrew ?_ | refine bSet ?_ (by first | exact Nat.le_refl _ | omega | (simp; done) | (simp; omega)) _)
    have HBR := Lib.hid hBR
    have hlR := hl.below hBR
    have hrR := hr.below hBR
    have hcd : ∀ i u, (w.alloc (.cells #[.int .i64 a, .int .i64 b, .int .i64 c, .int .i64 gap] 25)).cell? ⟨w.heap.size, i, none⟩ = some u → (ext (w.alloc (.cells #[.int .i64 a, .int .i64 b, .int .i64 c, .int .i64 gap] 25)) x).cell? ⟨w.heap.size, i, none⟩ = some u := fun i u h => by rw [ext_cell _ _ _ _ _ (by simp)]; exact h
    have hd0 := hcd 0 (.int .i64 a) (by simp [go_sem])
    have hd1 := hcd 1 (.int .i64 b) (by simp [go_sem])
    have hd2 := hcd 2 (.int .i64 c) (by simp [go_sem])
    have hd3 := hcd 3 (.int .i64 gap) (by simp [go_sem])
    have hgl : w.heap.size < (ext (w.alloc (.cells #[.int .i64 a, .int .i64 b, .int .i64 c, .int .i64 gap] 25)) x).heap.size := by have := ext_le (w.alloc (.cells #[.int .i64 a, .int .i64 b, .int .i64 c, .int .i64 gap] 25)) x; simp at this; omega
    clear hcd
    have oa := (OwI.lit_ (Below.refl _ (ext (w.alloc (.cells #[.int .i64 a, .int .i64 b, .int .i64 c, .int .i64 gap] 25)) x)) [] (by simp [maxLen]) #[] rfl).below (bExt (Below.refl _ _) x1)
    have hdaT : Dj (some ⟨(ext (w.alloc (.cells #[.int .i64 a, .int .i64 b, .int .i64 c, .int .i64 gap] 25)) x).heap.size, 0, none⟩) A1 := fun g h h2 => by have := (o1.blk h2).1; simp [blkOf] at h this; omega
    obtain ⟨y0, hy0⟩ := ext_ex (show Below (ext (w.alloc (.cells #[.int .i64 a, .int .i64 b, .int .i64 c, .int .i64 gap] 25)) x).heap.size (ext (w.alloc (.cells #[.int .i64 a, .int .i64 b, .int .i64 c, .int .i64 gap] 25)) x) (ext ((ext (w.alloc (.cells #[.int .i64 a, .int .i64 b, .int .i64 c, .int .i64 gap] 25)) x).alloc (.cells #[] 3)) x1) from by repeat (first | exact Below.refl _ _ | assumption | refine bExt ?_ _ | refine bAlloc ?_ _ | refine bDrewN ?_ _ | refine bDrew ?_ | refine bSet ?_ (by first | exact Nat.le_refl _ | omega | (simp; done) | (simp; omega)) _))
    have oT0 := o1.mono (base_le (show Below (ext (w.alloc (.cells #[.int .i64 a, .int .i64 b, .int .i64 c, .int .i64 gap] 25)) x).heap.size (ext (w.alloc (.cells #[.int .i64 a, .int .i64 b, .int .i64 c, .int .i64 gap] 25)) x) ((ext (w.alloc (.cells #[.int .i64 a, .int .i64 b, .int .i64 c, .int .i64 gap] 25)) x).alloc (.cells #[] 3)) from by repeat (first | exact Below.refl _ _ | assumption | refine bExt ?_ _ | refine bAlloc ?_ _ | refine bDrewN ?_ _ | refine bDrew ?_ | refine bSet ?_ (by first | exact Nat.le_refl _ | omega | (simp; done) | (simp; omega)) _)))
    rw [hy0] at oa oT0 ⊢
    clear o1 hBR cA cC
    generalize (ext (w.alloc (.cells #[.int .i64 a, .int .i64 b, .int .i64 c, .int .i64 gap] 25)) x) = R at *
    go_loopw [8, 9, 23] (fun v s i wr => ∃ (k z : Nat) (D : Option Addr) (q : Nat) (y : World), (k ≤ n1 ∧ z ≤ k) ∧ i = .int .i64 k ∧ v = .slice D z q ∧ s = .int .i64 (F k).2 ∧ wr = ext R y ∧ OwI R.heap.size (ext R y) D z q (F k).1 ∧ Ow3 96 R.heap.size (ext R y) A1 n1 c1 T ∧ Dj D A1) (fun _ _ i _ => n1 - (intOf i).toNat)
    case atStart =>
      have hF1 : (F 0).1 = [] := by rw [HF0.out]
      have hF2 : (F 0).2 = 0 := by rw [HF0.out]
      exact ⟨0, 0, _, 0, y0, by omega, rfl, rfl, by rw [hF2], rfl, by rw [hF1]; exact oa, oT0, hdaT⟩
    case round =>
      obtain ⟨k, z, D, q, y, ⟨hk, hzk⟩, rfl, rfl, rfl, rfl, oD, oT, hdj⟩ := hrel
      by_cases hlt : k < n1
      · obtain ⟨g, rfl, hg1, hg2⟩ := oT.form_ (by omega)
        obtain ⟨hc0, hc1, hc2⟩ := oT.cell_ k hlt
        have hn160 : n1 ≤ 160 := by rw [← HTl.out]; exact hTle
        have HS := Lib.hid ((HSt.out k).out (by rw [HTl.out]; exact hlt))
        unfold Hid at HS
        rw [HStep.out] at HS
        generalize T[k]?.getD z3 = x at *
        generalize F k = F0 at *
        obtain ⟨fo, fs⟩ := F0
        replace HS := Lib.hid HS
        by_cases h4 : x.2.1 = 4
        · have hkb : (x.2.1 != 4) = false := by simp [h4]
          have cc := fun w' h1 h2 => cL w' x.1 h1 h2
          obtain ⟨ld, hld⟩ : ∃ ld, ldS l (bdT l a b c gap S x.1) = ld := ⟨_, rfl⟩
          unfold Hid at HS
          simp only [hld] at cc HS
          by_cases hdf : ld = fs
          · have hnb : (ld != fs) = false := by simp [hdf]
            have HS := Lib.hid (HS.trans (if_neg (fun h => h.2 hdf)))
            clear hdf h4
            go_wp2_with (first | (go_at_call 87; ((with_reducible refine (cc _ (hlR.below (by repeat (first | exact Below.refl _ _ | assumption | refine bExt ?_ _ | refine bAlloc ?_ _ | refine bDrewN ?_ _ | refine bDrew ?_ | refine bSet ?_ (by first | exact Nat.le_refl _ | omega | (simp; done) | (simp; omega)) _))) (hrR.below (by repeat (first | exact Below.refl _ _ | assumption | refine bExt ?_ _ | refine bAlloc ?_ _ | refine bDrewN ?_ _ | refine bDrew ?_ | refine bSet ?_ (by first | exact Nat.le_refl _ | omega | (simp; done) | (simp; omega)) _)))).mono ?_); rintro e w' ⟨rfl, x2, rfl⟩)))
            obtain ⟨y', hy⟩ := ext_ex (show Below R.heap.size R (ext ((ext R y).alloc (.cells #[.int .i64 x.1, .int .i64 x.2.1, .int .i64 x.2.2] 96)) x2) from by repeat (first | exact Below.refl _ _ | assumption | refine bExt ?_ _ | refine bAlloc ?_ _ | refine bDrewN ?_ _ | refine bDrew ?_ | refine bSet ?_ (by first | exact Nat.le_refl _ | omega | (simp; done) | (simp; omega)) _))
            have oD' := oD.below (bExt (bAlloc (Below.refl _ _) (.cells #[.int .i64 x.1, .int .i64 x.2.1, .int .i64 x.2.2] 96)) x2)
            have oT' := oT.below (bExt (bAlloc (Below.refl _ _) (.cells #[.int .i64 x.1, .int .i64 x.2.1, .int .i64 x.2.2] 96)) x2)
            rw [hy] at oD' oT'
            go_roundw
            case rel => exact ⟨k + 1, z, D, q, y', by omega, by go_num, rfl, by rw [HS.out], hy, by rw [HS.out]; exact oD', oT', hdj⟩
            case measure => simp [intOf]; omega
          · have hnb : (ld != fs) = true := by simp [hdf]
            have HS := Lib.hid (HS.trans (if_pos ⟨h4, hdf⟩))
            have hzb : z ≤ 1099511627776 := by omega
            clear hdf h4
            go_wp2_with (first | (go_at_call 87; ((with_reducible refine (cc _ (hlR.below (by repeat (first | exact Below.refl _ _ | assumption | refine bExt ?_ _ | refine bAlloc ?_ _ | refine bDrewN ?_ _ | refine bDrew ?_ | refine bSet ?_ (by first | exact Nat.le_refl _ | omega | (simp; done) | (simp; omega)) _))) (hrR.below (by repeat (first | exact Below.refl _ _ | assumption | refine bExt ?_ _ | refine bAlloc ?_ _ | refine bDrewN ?_ _ | refine bDrew ?_ | refine bSet ?_ (by first | exact Nat.le_refl _ | omega | (simp; done) | (simp; omega)) _)))).mono ?_); rintro e w' ⟨rfl, x2, rfl⟩)) | (at_builtin; (refine wpl_push_int R _ _ _ ?_ rfl _ _ rfl D z q _ rfl oD ?_ ?_ rfl hzb ?_); (focus (first | rfl | (simp; done))); (focus (repeat (first | exact Below.refl _ _ | assumption | refine bExt ?_ _ | refine bAlloc ?_ _ | refine bDrewN ?_ _ | refine bDrew ?_ | refine bSet ?_ (by first | exact Nat.le_refl _ | omega | (simp; done) | (simp; omega)) _))); (focus (repeat (first | exact Below.refl _ _ | assumption | refine bExt ?_ _ | refine bAlloc ?_ _ | refine bDrewN ?_ _ | refine bDrew ?_ | refine bSet ?_ (by first | exact Nat.le_refl _ | omega | (simp; done) | (simp; omega)) _))); intro D' q' y1 oD' hga hda))
            have oT2 := (oT.below (bExt (bAlloc (Below.refl _ _) (.cells #[.int .i64 x.1, .int .i64 x.2.1, .int .i64 x.2.2] 96)) x2)).kept hga hdj.symm.ne
            have hdj' := Dj.push hdj (oT.below (bExt (bAlloc (Below.refl _ _) (.cells #[.int .i64 x.1, .int .i64 x.2.1, .int .i64 x.2.2] 96)) x2)) hda
            go_roundw
            case rel => exact ⟨k + 1, z + 1, D', q', y1, by omega, by go_num, rfl, by rw [HS.out], rfl, by rw [HS.out]; exact oD', oT2, hdj'⟩
            case measure => simp [intOf]; omega
        · have hkb : (x.2.1 != 4) = true := by simp [h4]
          have HS := Lib.hid (HS.out.trans (if_neg (fun h => h4 h.1)))
          clear h4
          go_wp2
          obtain ⟨y', hy⟩ := ext_ex (show Below R.heap.size R ((ext R y).alloc (.cells #[.int .i64 x.1, .int .i64 x.2.1, .int .i64 x.2.2] 96)) from by repeat (first | exact Below.refl _ _ | assumption | refine bExt ?_ _ | refine bAlloc ?_ _ | refine bDrewN ?_ _ | refine bDrew ?_ | refine bSet ?_ (by first | exact Nat.le_refl _ | omega | (simp; done) | (simp; omega)) _))
          have oD' := oD.below (bAlloc (Below.refl _ _) (.cells #[.int .i64 x.1, .int .i64 x.2.1, .int .i64 x.2.2] 96))
          have oT' := oT.below (bAlloc (Below.refl _ _) (.cells #[.int .i64 x.1, .int .i64 x.2.1, .int .i64 x.2.2] 96))
          rw [hy] at oD' oT'
          go_roundw
          case rel => exact ⟨k + 1, z, D, q, y', by omega, by go_num, rfl, by rw [HS.out], hy, by rw [HS.out]; exact oD', oT', hdj⟩
          case measure => simp [intOf]; omega
      · have hkn := Lib.hid (show k = n1 by omega)
        rw [hkn.out] at oD
        go_wp2
        go_ret2
        rw [HTl.out]
        exact RetIB.mk_ oD HBR.out.size (HBR.out.trans ((ext_below _ _).mono HBR.out.size))
end Go.Proofs.Ytogglhgagblihaa
