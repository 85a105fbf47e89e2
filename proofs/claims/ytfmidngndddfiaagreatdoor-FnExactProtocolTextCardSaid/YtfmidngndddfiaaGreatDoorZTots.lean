/- Contracts: scores of items and of components, and the lists of them. Conditions: a valid performance. -/
import Derived.Test.YtfmidngndddfiaaGreatDoorZLines
import Derived.Test.YtfmidngndddfiaaGreatDoorZTotP
import Derived.Lib.MinMax
set_option linter.unusedVariables false
set_option linter.unusedSimpArgs false
set_option maxRecDepth 100000
namespace Go.Proofs.YtfmidngndddfiaaGreatDoor
open Go.RowKit
set_option maxHeartbeats 1000000 in
theorem itemScore_any (w : World) (A B : Option Addr) (n m c d : Nat) (els : List El) (q0 q1 q2 q3 : Int) (I : Option Addr) (n2 c2 : Nat) (its : List It) (k : Nat) (hG : GP w A n els q0 q1 q2 I n2 c2 its) (hk : k < n2) (GA KA : Option Addr) (gn gc kn kc : Nat) (gg : List (List Int)) (hg : RdM w GA gn gg) (hkg : k < gn) (hgg : GrG (gg[k]?.getD [])) :
    Calls Tryz.prog 162 #[.agg #[.slice A n c, .slice B m d, .int .i64 q0, .int .i64 q1, .int .i64 q2, .int .i64 q3], .slice I n2 c2, .agg #[.slice GA gn gc, .slice KA kn kc], .int .i64 k] w (fun e w' => e = .returned (.int .i64 (scAt els q0 q1 q2 its gg k)) ∧ ∃ y, w' = ext w y) := by
  obtain ⟨bg, og, RA, rn, rc, rfl, hbg, hcg, hr, _, _⟩ := hg.at_ k hkg
  have cb := fun W (h : Below w.heap.size w W) => itemBaseG W A B n m c d els q0 q1 q2 q3 I n2 c2 its k (hG.below h) hk
  have cp := fun W (h : Below w.heap.size w W) => pointsFor_any W A B n m c d els q0 q1 q2 q3 I n2 c2 its k (hG.below h) hk RA rn rc _ (hr.below h) hgg
  have hIk := hG.2.2.2.2 k (by rw [hG.2.1.len]; exact hk)
  have hb1 := base_bd (its := its) (k := k) hG.1.2.2 hIk
  have hb2 := pts_bd (its := its) (k := k) hG.1.2.2 hIk hgg
  have HV : Hid (scAt els q0 q1 q2 its gg k = baseV els q0 q1 q2 its k + ptsV els q0 q1 q2 its k (gg[k]?.getD [])) := rfl
  clear hG hg hgg hIk hr
  generalize baseV els q0 q1 q2 its k = bv at *
  generalize ptsV els q0 q1 q2 its k (gg[k]?.getD []) = pv at *
  have e1 : IntKind.i64.wrap (bv + pv) = bv + pv := IntWalk.i64_in _ (by omega)
  have hR : ((w.alloc (.cells #[.slice A n c, .slice B m d, .int .i64 q0, .int .i64 q1, .int .i64 q2, .int .i64 q3] 40)).alloc (.cells #[.slice (some ⟨bg, og, none⟩) gn gc, .slice KA kn kc] 43)).cell? ⟨w.heap.size, 0, none⟩ = some (.slice A n c) ∧ ((w.alloc (.cells #[.slice A n c, .slice B m d, .int .i64 q0, .int .i64 q1, .int .i64 q2, .int .i64 q3] 40)).alloc (.cells #[.slice (some ⟨bg, og, none⟩) gn gc, .slice KA kn kc] 43)).cell? ⟨w.heap.size, 1, none⟩ = some (.slice B m d) ∧ ((w.alloc (.cells #[.slice A n c, .slice B m d, .int .i64 q0, .int .i64 q1, .int .i64 q2, .int .i64 q3] 40)).alloc (.cells #[.slice (some ⟨bg, og, none⟩) gn gc, .slice KA kn kc] 43)).cell? ⟨w.heap.size, 2, none⟩ = some (.int .i64 q0) ∧ ((w.alloc (.cells #[.slice A n c, .slice B m d, .int .i64 q0, .int .i64 q1, .int .i64 q2, .int .i64 q3] 40)).alloc (.cells #[.slice (some ⟨bg, og, none⟩) gn gc, .slice KA kn kc] 43)).cell? ⟨w.heap.size, 3, none⟩ = some (.int .i64 q1) ∧ ((w.alloc (.cells #[.slice A n c, .slice B m d, .int .i64 q0, .int .i64 q1, .int .i64 q2, .int .i64 q3] 40)).alloc (.cells #[.slice (some ⟨bg, og, none⟩) gn gc, .slice KA kn kc] 43)).cell? ⟨w.heap.size, 4, none⟩ = some (.int .i64 q2) ∧ ((w.alloc (.cells #[.slice A n c, .slice B m d, .int .i64 q0, .int .i64 q1, .int .i64 q2, .int .i64 q3] 40)).alloc (.cells #[.slice (some ⟨bg, og, none⟩) gn gc, .slice KA kn kc] 43)).cell? ⟨w.heap.size, 5, none⟩ = some (.int .i64 q3) ∧ ((w.alloc (.cells #[.slice A n c, .slice B m d, .int .i64 q0, .int .i64 q1, .int .i64 q2, .int .i64 q3] 40)).alloc (.cells #[.slice (some ⟨bg, og, none⟩) gn gc, .slice KA kn kc] 43)).cell? ⟨w.heap.size + 1, 0, none⟩ = some (.slice (some ⟨bg, og, none⟩) gn gc) ∧ ((w.alloc (.cells #[.slice A n c, .slice B m d, .int .i64 q0, .int .i64 q1, .int .i64 q2, .int .i64 q3] 40)).alloc (.cells #[.slice (some ⟨bg, og, none⟩) gn gc, .slice KA kn kc] 43)).cell? ⟨bg, og + k, none⟩ = some (.slice RA rn rc) := by refine ⟨?_, ?_, ?_, ?_, ?_, ?_, ?_, ?_⟩ <;> first | assumption | simp [*, go_sem]
  have hS := fun (W : World) (h : Below ((w.alloc (.cells #[.slice A n c, .slice B m d, .int .i64 q0, .int .i64 q1, .int .i64 q2, .int .i64 q3] 40)).alloc (.cells #[.slice (some ⟨bg, og, none⟩) gn gc, .slice KA kn kc] 43)).heap.size ((w.alloc (.cells #[.slice A n c, .slice B m d, .int .i64 q0, .int .i64 q1, .int .i64 q2, .int .i64 q3] 40)).alloc (.cells #[.slice (some ⟨bg, og, none⟩) gn gc, .slice KA kn kc] 43)) W) => (⟨(h.cell (p := ⟨w.heap.size, 0, none⟩) (by first | assumption | (simp [go_sem]; done) | (simp [go_sem]; omega))).trans hR.1, (h.cell (p := ⟨w.heap.size, 1, none⟩) (by first | assumption | (simp [go_sem]; done) | (simp [go_sem]; omega))).trans hR.2.1, (h.cell (p := ⟨w.heap.size, 2, none⟩) (by first | assumption | (simp [go_sem]; done) | (simp [go_sem]; omega))).trans hR.2.2.1, (h.cell (p := ⟨w.heap.size, 3, none⟩) (by first | assumption | (simp [go_sem]; done) | (simp [go_sem]; omega))).trans hR.2.2.2.1, (h.cell (p := ⟨w.heap.size, 4, none⟩) (by first | assumption | (simp [go_sem]; done) | (simp [go_sem]; omega))).trans hR.2.2.2.2.1, (h.cell (p := ⟨w.heap.size, 5, none⟩) (by first | assumption | (simp [go_sem]; done) | (simp [go_sem]; omega))).trans hR.2.2.2.2.2.1, (h.cell (p := ⟨w.heap.size + 1, 0, none⟩) (by first | assumption | (simp [go_sem]; done) | (simp [go_sem]; omega))).trans hR.2.2.2.2.2.2.1, (h.cell (p := ⟨bg, og + k, none⟩) (by first | assumption | (simp [go_sem]; done) | (simp [go_sem]; omega))).trans hR.2.2.2.2.2.2.2⟩ : W.cell? ⟨w.heap.size, 0, none⟩ = some (.slice A n c) ∧ W.cell? ⟨w.heap.size, 1, none⟩ = some (.slice B m d) ∧ W.cell? ⟨w.heap.size, 2, none⟩ = some (.int .i64 q0) ∧ W.cell? ⟨w.heap.size, 3, none⟩ = some (.int .i64 q1) ∧ W.cell? ⟨w.heap.size, 4, none⟩ = some (.int .i64 q2) ∧ W.cell? ⟨w.heap.size, 5, none⟩ = some (.int .i64 q3) ∧ W.cell? ⟨w.heap.size + 1, 0, none⟩ = some (.slice (some ⟨bg, og, none⟩) gn gc) ∧ W.cell? ⟨bg, og + k, none⟩ = some (.slice RA rn rc))
  clear hR
  clear hcg
  go_enter Tryz.func162, Tryz.ntmps162
  go_wp2
  go_region_held3 (fun w' => w'.cell? ⟨w.heap.size, 0, none⟩ = some (.slice A n c) ∧ w'.cell? ⟨w.heap.size, 1, none⟩ = some (.slice B m d) ∧ w'.cell? ⟨w.heap.size, 2, none⟩ = some (.int .i64 q0) ∧ w'.cell? ⟨w.heap.size, 3, none⟩ = some (.int .i64 q1) ∧ w'.cell? ⟨w.heap.size, 4, none⟩ = some (.int .i64 q2) ∧ w'.cell? ⟨w.heap.size, 5, none⟩ = some (.int .i64 q3) ∧ w'.cell? ⟨w.heap.size + 1, 0, none⟩ = some (.slice (some ⟨bg, og, none⟩) gn gc) ∧ w'.cell? ⟨bg, og + k, none⟩ = some (.slice RA rn rc)) (exact hS _ (by repeat (first | exact Below.refl _ _ | assumption | refine bExt ?_ _ | refine bAlloc ?_ _ | refine bDrewN ?_ _ | refine bDrew ?_ | refine bSet ?_ (by first | exact Nat.le_refl _ | omega | (simp; done) | (simp; omega)) _))) (first | (go_at_call 61; ((with_reducible refine (cb _ (by repeat (first | exact Below.refl _ _ | assumption | refine bExt ?_ _ | refine bAlloc ?_ _ | refine bDrewN ?_ _ | refine bDrew ?_ | refine bSet ?_ (by first | exact Nat.le_refl _ | omega | (simp; done) | (simp; omega)) _))).mono ?_); rintro e w' ⟨rfl, y1, rfl⟩)) | (go_at_call 62; ((with_reducible refine (cp _ (by repeat (first | exact Below.refl _ _ | assumption | refine bExt ?_ _ | refine bAlloc ?_ _ | refine bDrewN ?_ _ | refine bDrew ?_ | refine bSet ?_ (by first | exact Nat.le_refl _ | omega | (simp; done) | (simp; omega)) _))).mono ?_); rintro e w' ⟨rfl, y2, rfl⟩)))
  all_goals
    go_wp2
    go_ret
    exact ⟨ret_int (by rw [HV.out]), ext_ex (by repeat (first | exact Below.refl _ _ | assumption | refine bExt ?_ _ | refine bAlloc ?_ _ | refine bDrewN ?_ _ | refine bDrew ?_ | refine bSet ?_ (by first | exact Nat.le_refl _ | omega | (simp; done) | (simp; omega)) _))⟩
set_option maxHeartbeats 1000000 in
theorem elScores_any (w : World) (A B : Option Addr) (n m c d : Nat) (els : List El) (q0 q1 q2 q3 : Int) (I : Option Addr) (n2 c2 : Nat) (its : List It) (GA KA : Option Addr) (gn gc kn kc : Nat) (gg kk : List (List Int)) (s1 s2 s3 : Int) (hM : PP w A n els I n2 c2 its GA gn gg) (hP : PerfG els q0 q1 q2 q3 its gg kk s1 s2 s3) :
    Calls Tryz.prog 131 #[.agg #[.slice A n c, .slice B m d, .int .i64 q0, .int .i64 q1, .int .i64 q2, .int .i64 q3], .slice I n2 c2, .agg #[.slice GA gn gc, .slice KA kn kc]] w (RetI w (mapN (scAt els q0 q1 q2 its gg) n2)) := by
  have Hl := Lib.hid hM.2.1.1.len
  have Hgl := Lib.hid hM.2.2.len
  have hgl := hP.glen
  rw [Hl.out, Hgl.out] at hgl
  have hlen := hP.len
  rw [Hl.out] at hlen
  have hG := hM.gp hP
  have cs := fun W (h : Below w.heap.size w W) (k : Nat) (hk : k < n2) => elScore_any W A B n m c d els q0 q1 q2 q3 I n2 c2 its k (hG.below h) hk GA KA gn gc kn kc gg (hM.2.2.below h) (by omega) (hP.grs k (by rw [Hgl.out]; omega))
  have cs : ∀ W (h : Below w.heap.size w W) (k : Nat) (hk : k < n2), Calls Tryz.prog 52 #[.agg #[.slice A n c, .slice B m d, .int .i64 q0, .int .i64 q1, .int .i64 q2, .int .i64 q3], .slice I n2 c2, .agg #[.slice GA gn gc, .slice KA kn kc], .int .i64 k] W (fun e w' => e = .returned (.int .i64 (scAt els q0 q1 q2 its gg k)) ∧ ∃ y, w' = ext W y) := cs
  have HS := fun k => Lib.hid (mapN_succ (scAt els q0 q1 q2 its gg) k)
  clear hM hP hG hgl
  go_enter Tryz.func131, Tryz.ntmps131
  go_wp2
  go_loopw [7, 8, 11] (fun t _ i wr => ∃ (k : Nat) (D : Option Addr) (dc : Nat) (y : World), k ≤ n2 ∧ i = .int .i64 k ∧ t = .slice D k dc ∧ wr = ext ((w.alloc (.cells #[.slice A n c, .slice B m d, .int .i64 q0, .int .i64 q1, .int .i64 q2, .int .i64 q3] 40)).alloc (.cells #[.slice GA gn gc, .slice KA kn kc] 43)) y ∧ OwI ((w.alloc (.cells #[.slice A n c, .slice B m d, .int .i64 q0, .int .i64 q1, .int .i64 q2, .int .i64 q3] 40)).alloc (.cells #[.slice GA gn gc, .slice KA kn kc] 43)).heap.size (ext ((w.alloc (.cells #[.slice A n c, .slice B m d, .int .i64 q0, .int .i64 q1, .int .i64 q2, .int .i64 q3] 40)).alloc (.cells #[.slice GA gn gc, .slice KA kn kc] 43)) y) D k dc (mapN (scAt els q0 q1 q2 its gg) k)) (fun _ _ i _ => n2 - (intOf i).toNat)
  case atStart =>
    obtain ⟨y, hy⟩ := ext_ex (Below.refl ((w.alloc (.cells #[.slice A n c, .slice B m d, .int .i64 q0, .int .i64 q1, .int .i64 q2, .int .i64 q3] 40)).alloc (.cells #[.slice GA gn gc, .slice KA kn kc] 43)).heap.size ((w.alloc (.cells #[.slice A n c, .slice B m d, .int .i64 q0, .int .i64 q1, .int .i64 q2, .int .i64 q3] 40)).alloc (.cells #[.slice GA gn gc, .slice KA kn kc] 43)))
    exact ⟨0, none, 0, y, by omega, rfl, rfl, hy, by rw [mapN_zero]; exact OwI.nil_⟩
  case round =>
    obtain ⟨k, D, dc, y, hk, rfl, rfl, rfl, ho⟩ := hrel
    by_cases hlt : k < n2
    · have ck := fun W h => cs W h k hlt
      have HSk := HS k
      have hkb : k ≤ 1099511627776 := by omega
      clear cs HS
      generalize mapN (scAt els q0 q1 q2 its gg) k = out at *
      generalize scAt els q0 q1 q2 its gg k = v at *
      have f0 := ((by repeat (first | exact Below.refl _ _ | assumption | refine bExt ?_ _ | refine bAlloc ?_ _ | refine bDrewN ?_ _ | refine bDrew ?_ | refine bSet ?_ (by first | exact Nat.le_refl _ | omega | (simp; done) | (simp; omega)) _) : Below ((w.alloc (.cells #[.slice A n c, .slice B m d, .int .i64 q0, .int .i64 q1, .int .i64 q2, .int .i64 q3] 40)).alloc (.cells #[.slice GA gn gc, .slice KA kn kc] 43)).heap.size ((w.alloc (.cells #[.slice A n c, .slice B m d, .int .i64 q0, .int .i64 q1, .int .i64 q2, .int .i64 q3] 40)).alloc (.cells #[.slice GA gn gc, .slice KA kn kc] 43)) (ext ((w.alloc (.cells #[.slice A n c, .slice B m d, .int .i64 q0, .int .i64 q1, .int .i64 q2, .int .i64 q3] 40)).alloc (.cells #[.slice GA gn gc, .slice KA kn kc] 43)) y)))
      go_wp2_with (first | (go_at_call 52; ((with_reducible refine (ck _ (by repeat (first | exact Below.refl _ _ | assumption | refine bExt ?_ _ | refine bAlloc ?_ _ | refine bDrewN ?_ _ | refine bDrew ?_ | refine bSet ?_ (by first | exact Nat.le_refl _ | omega | (simp; done) | (simp; omega)) _))).mono ?_); rintro e w' ⟨rfl, x, rfl⟩)) | (at_builtin; (refine wpl_push_int ((w.alloc (.cells #[.slice A n c, .slice B m d, .int .i64 q0, .int .i64 q1, .int .i64 q2, .int .i64 q3] 40)).alloc (.cells #[.slice GA gn gc, .slice KA kn kc] 43)) _ _ _ ?_ rfl _ _ rfl D k dc _ rfl ho ?_ ?_ rfl hkb ?_); (focus (first | rfl | (simp; done))); (focus (repeat (first | exact Below.refl _ _ | assumption | refine bExt ?_ _ | refine bAlloc ?_ _ | refine bDrewN ?_ _ | refine bDrew ?_ | refine bSet ?_ (by first | exact Nat.le_refl _ | omega | (simp; done) | (simp; omega)) _))); (focus (repeat (first | exact Below.refl _ _ | assumption | refine bExt ?_ _ | refine bAlloc ?_ _ | refine bDrewN ?_ _ | refine bDrew ?_ | refine bSet ?_ (by first | exact Nat.le_refl _ | omega | (simp; done) | (simp; omega)) _))); intro D' c' y' ho' hg hd))
      go_roundw
      case rel => exact ⟨k + 1, D', c', y', by omega, by go_num, rfl, rfl, by rw [HSk.out]; exact ho'⟩
      case measure => simp [intOf]; omega
    · obtain rfl : k = n2 := by omega
      go_wp2
      go_ret
      exact RetI.mk_ ho (by first | (simp [go_sem]; done) | (simp [go_sem]; omega)) (by repeat (first | exact Below.refl _ _ | assumption | refine bExt ?_ _ | refine bAlloc ?_ _ | refine bDrewN ?_ _ | refine bDrew ?_ | refine bSet ?_ (by first | exact Nat.le_refl _ | omega | (simp; done) | (simp; omega)) _))
set_option maxHeartbeats 1000000 in
theorem itemScores_any (w : World) (A B : Option Addr) (n m c d : Nat) (els : List El) (q0 q1 q2 q3 : Int) (I : Option Addr) (n2 c2 : Nat) (its : List It) (GA KA : Option Addr) (gn gc kn kc : Nat) (gg kk : List (List Int)) (s1 s2 s3 : Int) (hM : PP w A n els I n2 c2 its GA gn gg) (hP : PerfG els q0 q1 q2 q3 its gg kk s1 s2 s3) :
    Calls Tryz.prog 135 #[.agg #[.slice A n c, .slice B m d, .int .i64 q0, .int .i64 q1, .int .i64 q2, .int .i64 q3], .slice I n2 c2, .agg #[.slice GA gn gc, .slice KA kn kc]] w (RetI w (mapN (scAt els q0 q1 q2 its gg) n2)) := by
  have Hl := Lib.hid hM.2.1.1.len
  have Hgl := Lib.hid hM.2.2.len
  have hgl := hP.glen
  rw [Hl.out, Hgl.out] at hgl
  have hlen := hP.len
  rw [Hl.out] at hlen
  have hG := hM.gp hP
  have cs := fun W (h : Below w.heap.size w W) (k : Nat) (hk : k < n2) => itemScore_any W A B n m c d els q0 q1 q2 q3 I n2 c2 its k (hG.below h) hk GA KA gn gc kn kc gg (hM.2.2.below h) (by omega) (hP.grs k (by rw [Hgl.out]; omega))
  have cs : ∀ W (h : Below w.heap.size w W) (k : Nat) (hk : k < n2), Calls Tryz.prog 162 #[.agg #[.slice A n c, .slice B m d, .int .i64 q0, .int .i64 q1, .int .i64 q2, .int .i64 q3], .slice I n2 c2, .agg #[.slice GA gn gc, .slice KA kn kc], .int .i64 k] W (fun e w' => e = .returned (.int .i64 (scAt els q0 q1 q2 its gg k)) ∧ ∃ y, w' = ext W y) := cs
  have HS := fun k => Lib.hid (mapN_succ (scAt els q0 q1 q2 its gg) k)
  clear hM hP hG hgl
  go_enter Tryz.func135, Tryz.ntmps135
  go_wp2
  go_loopw [7, 8, 12] (fun t _ i wr => ∃ (k : Nat) (D : Option Addr) (dc : Nat) (y : World), k ≤ n2 ∧ i = .int .i64 k ∧ t = .slice D k dc ∧ wr = ext ((w.alloc (.cells #[.slice A n c, .slice B m d, .int .i64 q0, .int .i64 q1, .int .i64 q2, .int .i64 q3] 40)).alloc (.cells #[.slice GA gn gc, .slice KA kn kc] 43)) y ∧ OwI ((w.alloc (.cells #[.slice A n c, .slice B m d, .int .i64 q0, .int .i64 q1, .int .i64 q2, .int .i64 q3] 40)).alloc (.cells #[.slice GA gn gc, .slice KA kn kc] 43)).heap.size (ext ((w.alloc (.cells #[.slice A n c, .slice B m d, .int .i64 q0, .int .i64 q1, .int .i64 q2, .int .i64 q3] 40)).alloc (.cells #[.slice GA gn gc, .slice KA kn kc] 43)) y) D k dc (mapN (scAt els q0 q1 q2 its gg) k)) (fun _ _ i _ => n2 - (intOf i).toNat)
  case atStart =>
    obtain ⟨y, hy⟩ := ext_ex (show Below ((w.alloc (.cells #[.slice A n c, .slice B m d, .int .i64 q0, .int .i64 q1, .int .i64 q2, .int .i64 q3] 40)).alloc (.cells #[.slice GA gn gc, .slice KA kn kc] 43)).heap.size ((w.alloc (.cells #[.slice A n c, .slice B m d, .int .i64 q0, .int .i64 q1, .int .i64 q2, .int .i64 q3] 40)).alloc (.cells #[.slice GA gn gc, .slice KA kn kc] 43)) (((w.alloc (.cells #[.slice A n c, .slice B m d, .int .i64 q0, .int .i64 q1, .int .i64 q2, .int .i64 q3] 40)).alloc (.cells #[.slice GA gn gc, .slice KA kn kc] 43)).alloc (.cells #[] 3)) from by repeat (first | exact Below.refl _ _ | assumption | refine bExt ?_ _ | refine bAlloc ?_ _ | refine bDrewN ?_ _ | refine bDrew ?_ | refine bSet ?_ (by first | exact Nat.le_refl _ | omega | (simp; done) | (simp; omega)) _))
    have o0 := OwI.lit_ (Below.refl _ ((w.alloc (.cells #[.slice A n c, .slice B m d, .int .i64 q0, .int .i64 q1, .int .i64 q2, .int .i64 q3] 40)).alloc (.cells #[.slice GA gn gc, .slice KA kn kc] 43))) [] (by simp [maxLen]) #[] rfl
    rw [hy] at o0
    exact ⟨0, _, 0, y, by omega, rfl, rfl, hy, by simpa [go_sem, mapN] using o0⟩
  case round =>
    obtain ⟨k, D, dc, y, hk, rfl, rfl, rfl, ho⟩ := hrel
    by_cases hlt : k < n2
    · have ck := fun W h => cs W h k hlt
      have HSk := HS k
      have hkb : k ≤ 1099511627776 := by omega
      clear cs HS
      generalize mapN (scAt els q0 q1 q2 its gg) k = out at *
      generalize scAt els q0 q1 q2 its gg k = v at *
      have f0 := ((by repeat (first | exact Below.refl _ _ | assumption | refine bExt ?_ _ | refine bAlloc ?_ _ | refine bDrewN ?_ _ | refine bDrew ?_ | refine bSet ?_ (by first | exact Nat.le_refl _ | omega | (simp; done) | (simp; omega)) _) : Below ((w.alloc (.cells #[.slice A n c, .slice B m d, .int .i64 q0, .int .i64 q1, .int .i64 q2, .int .i64 q3] 40)).alloc (.cells #[.slice GA gn gc, .slice KA kn kc] 43)).heap.size ((w.alloc (.cells #[.slice A n c, .slice B m d, .int .i64 q0, .int .i64 q1, .int .i64 q2, .int .i64 q3] 40)).alloc (.cells #[.slice GA gn gc, .slice KA kn kc] 43)) (ext ((w.alloc (.cells #[.slice A n c, .slice B m d, .int .i64 q0, .int .i64 q1, .int .i64 q2, .int .i64 q3] 40)).alloc (.cells #[.slice GA gn gc, .slice KA kn kc] 43)) y)))
      go_wp2_with (first | (go_at_call 162; ((with_reducible refine (ck _ (by repeat (first | exact Below.refl _ _ | assumption | refine bExt ?_ _ | refine bAlloc ?_ _ | refine bDrewN ?_ _ | refine bDrew ?_ | refine bSet ?_ (by first | exact Nat.le_refl _ | omega | (simp; done) | (simp; omega)) _))).mono ?_); rintro e w' ⟨rfl, x, rfl⟩)) | (at_builtin; (refine wpl_push_int ((w.alloc (.cells #[.slice A n c, .slice B m d, .int .i64 q0, .int .i64 q1, .int .i64 q2, .int .i64 q3] 40)).alloc (.cells #[.slice GA gn gc, .slice KA kn kc] 43)) _ _ _ ?_ rfl _ _ rfl D k dc _ rfl ho ?_ ?_ rfl hkb ?_); (focus (first | rfl | (simp; done))); (focus (repeat (first | exact Below.refl _ _ | assumption | refine bExt ?_ _ | refine bAlloc ?_ _ | refine bDrewN ?_ _ | refine bDrew ?_ | refine bSet ?_ (by first | exact Nat.le_refl _ | omega | (simp; done) | (simp; omega)) _))); (focus (repeat (first | exact Below.refl _ _ | assumption | refine bExt ?_ _ | refine bAlloc ?_ _ | refine bDrewN ?_ _ | refine bDrew ?_ | refine bSet ?_ (by first | exact Nat.le_refl _ | omega | (simp; done) | (simp; omega)) _))); intro D' c' y' ho' hg hd))
      go_roundw
      case rel => exact ⟨k + 1, D', c', y', by omega, by go_num, rfl, rfl, by rw [HSk.out]; exact ho'⟩
      case measure => simp [intOf]; omega
    · obtain rfl : k = n2 := by omega
      go_wp2
      go_ret
      exact RetI.mk_ ho (by first | (simp [go_sem]; done) | (simp [go_sem]; omega)) (by repeat (first | exact Below.refl _ _ | assumption | refine bExt ?_ _ | refine bAlloc ?_ _ | refine bDrewN ?_ _ | refine bDrew ?_ | refine bSet ?_ (by first | exact Nat.le_refl _ | omega | (simp; done) | (simp; omega)) _))
theorem componentScore_any (w : World) (A : Option Addr) (n c : Nat) (l : List Int) (ha : RdI w A n l) (hk : KrG l) :
    Calls Tryz.prog 177 #[.slice A n c] w (fun e w' => e = .returned (.int .i64 (cmV l)) ∧ ∃ y, w' = ext w y) := by
  have hl := ha.len
  have ht := cm_trim hk
  have cm := fun W (h : Below w.heap.size w W) => trimmedSum_any W A n c l (ha.below h) (by have := hk.1; omega) (by have := hk.1; omega) (fun x hx => by have := hk.2 x hx; omega)
  have HV : Hid (cmV l = roundV (trimS l) (trimN l : Nat)) := rfl
  clear ha hk
  generalize trimS l = ts at *
  generalize trimN l = tn at *
  have cr := fun W => roundDiv_any ts (tn : Nat) W (by omega) (by omega) (by omega) (by omega)
  go_enter Tryz.func177, Tryz.ntmps177
  go_wp2_with (first | (go_at_call 93; ((with_reducible refine (cm _ (by repeat (first | exact Below.refl _ _ | assumption | refine bExt ?_ _ | refine bAlloc ?_ _ | refine bDrewN ?_ _ | refine bDrew ?_ | refine bSet ?_ (by first | exact Nat.le_refl _ | omega | (simp; done) | (simp; omega)) _))).mono ?_); rintro e w' ⟨rfl, y1, rfl⟩)) | (go_at_call 94; ((with_reducible refine (cr _).mono ?_); rintro e w' ⟨rfl, rfl⟩)))
  go_ret
  exact ⟨ret_int (by rw [HV.out]), ext_ex (by repeat (first | exact Below.refl _ _ | assumption | refine bExt ?_ _ | refine bAlloc ?_ _ | refine bDrewN ?_ _ | refine bDrew ?_ | refine bSet ?_ (by first | exact Nat.le_refl _ | omega | (simp; done) | (simp; omega)) _))⟩
theorem cpScore_any (w : World) (GA KA : Option Addr) (gn gc kn kc : Nat) (kk : List (List Int)) (hK : RdM w KA kn kk) (k : Nat) (hkn : k < kn) (hk : KrG (kk[k]?.getD [])) :
    Calls Tryz.prog 176 #[.agg #[.slice GA gn gc, .slice KA kn kc], .int .i64 k] w (fun e w' => e = .returned (.int .i64 (cmAt kk k)) ∧ ∃ y, w' = ext w y) := by
  obtain ⟨b, off, RA, rn, rc, rfl, hb, hc, ha, _, _⟩ := hK.at_ k hkn
  have hl := ha.len
  have ht := cm_trim hk
  have cm := fun W (h : Below w.heap.size w W) => tmMean_any W RA rn rc _ (ha.below h) (by have := hk.1; omega) (by have := hk.1; omega) (fun x hx => by have := hk.2 x hx; omega)
  have HV : Hid (cmAt kk k = roundV (trimS (kk[k]?.getD [])) (trimN (kk[k]?.getD []) : Nat)) := rfl
  clear ha hk hK hl
  generalize trimS (kk[k]?.getD []) = ts at *
  generalize trimN (kk[k]?.getD []) = tn at *
  have cr := fun W => poRound_any ts (tn : Nat) W (by omega) (by omega) (by omega) (by omega)
  go_enter Tryz.func176, Tryz.ntmps176
  go_wp2_with (first | (go_at_call 150; ((with_reducible refine (cm _ (by repeat (first | exact Below.refl _ _ | assumption | refine bExt ?_ _ | refine bAlloc ?_ _ | refine bDrewN ?_ _ | refine bDrew ?_ | refine bSet ?_ (by first | exact Nat.le_refl _ | omega | (simp; done) | (simp; omega)) _))).mono ?_); rintro e w' ⟨rfl, y1, rfl⟩)) | (go_at_call 116; ((with_reducible refine (cr _).mono ?_); rintro e w' ⟨rfl, rfl⟩)))
  go_ret
  exact ⟨ret_int (by rw [HV.out]), ext_ex (by repeat (first | exact Below.refl _ _ | assumption | refine bExt ?_ _ | refine bAlloc ?_ _ | refine bDrewN ?_ _ | refine bDrew ?_ | refine bSet ?_ (by first | exact Nat.le_refl _ | omega | (simp; done) | (simp; omega)) _))⟩
set_option maxHeartbeats 1000000 in
theorem componentScores_any (w : World) (GA KA : Option Addr) (gn gc kn kc : Nat) (kk : List (List Int)) (hK : RdM w KA kn kk) (hkn : kn ≤ 1000) (hk : ∀ k, k < kn → KrG (kk[k]?.getD [])) :
    Calls Tryz.prog 163 #[.agg #[.slice GA gn gc, .slice KA kn kc]] w (RetI w (mapN (cmAt kk) kn)) := by
  have HS := fun k => Lib.hid (mapN_succ (cmAt kk) k)
  go_enter Tryz.func163, Tryz.ntmps163
  go_wp2
  go_loopw [3, 5, 10] (fun t _ i wr => ∃ (k : Nat) (D : Option Addr) (dc : Nat) (y : World), k ≤ kn ∧ i = .int .i64 k ∧ t = .slice D k dc ∧ wr = ext (w.alloc (.cells #[.slice GA gn gc, .slice KA kn kc] 43)) y ∧ OwI (w.alloc (.cells #[.slice GA gn gc, .slice KA kn kc] 43)).heap.size (ext (w.alloc (.cells #[.slice GA gn gc, .slice KA kn kc] 43)) y) D k dc (mapN (cmAt kk) k)) (fun _ _ i _ => kn - (intOf i).toNat)
  case atStart =>
    obtain ⟨y, hy⟩ := ext_ex (show Below (w.alloc (.cells #[.slice GA gn gc, .slice KA kn kc] 43)).heap.size (w.alloc (.cells #[.slice GA gn gc, .slice KA kn kc] 43)) ((w.alloc (.cells #[.slice GA gn gc, .slice KA kn kc] 43)).alloc (.cells #[] 3)) from by repeat (first | exact Below.refl _ _ | assumption | refine bExt ?_ _ | refine bAlloc ?_ _ | refine bDrewN ?_ _ | refine bDrew ?_ | refine bSet ?_ (by first | exact Nat.le_refl _ | omega | (simp; done) | (simp; omega)) _))
    have o0 := OwI.lit_ (Below.refl _ (w.alloc (.cells #[.slice GA gn gc, .slice KA kn kc] 43))) [] (by simp [maxLen]) #[] rfl
    rw [hy] at o0
    exact ⟨0, _, 0, y, by omega, rfl, rfl, hy, by simpa [go_sem, mapN] using o0⟩
  case round =>
    obtain ⟨k, D, dc, y, hkk, rfl, rfl, rfl, ho⟩ := hrel
    by_cases hlt : k < kn
    · obtain ⟨b, off, RA, rn, rc, rfl, hb, hc, ha, _, _⟩ := hK.at_ k hlt
      have ck : ∀ W (h : Below w.heap.size w W), Calls Tryz.prog 177 #[.slice RA rn rc] W (fun e w' => e = .returned (.int .i64 (cmAt kk k)) ∧ ∃ y, w' = ext W y) := fun W h => componentScore_any W RA rn rc _ (ha.below h) (hk k hlt)
      have HSk := HS k
      have hkb : k ≤ 1099511627776 := by omega
      clear HS ha hk hK
      generalize mapN (cmAt kk) k = out at *
      generalize cmAt kk k = v at *
      have fc := ((by repeat (first | exact Below.refl _ _ | assumption | refine bExt ?_ _ | refine bAlloc ?_ _ | refine bDrewN ?_ _ | refine bDrew ?_ | refine bSet ?_ (by first | exact Nat.le_refl _ | omega | (simp; done) | (simp; omega)) _) : Below w.heap.size w (ext (w.alloc (.cells #[.slice GA gn gc, .slice (some ⟨b, off, none⟩) kn kc] 43)) y)).cell (p := ⟨b, off + k, none⟩) hb).trans hc
      go_wp2_with (first | (go_at_call 177; ((with_reducible refine (ck _ (by repeat (first | exact Below.refl _ _ | assumption | refine bExt ?_ _ | refine bAlloc ?_ _ | refine bDrewN ?_ _ | refine bDrew ?_ | refine bSet ?_ (by first | exact Nat.le_refl _ | omega | (simp; done) | (simp; omega)) _))).mono ?_); rintro e w' ⟨rfl, x, rfl⟩)) | (at_builtin; (refine wpl_push_int (w.alloc (.cells #[.slice GA gn gc, .slice (some ⟨b, off, none⟩) kn kc] 43)) _ _ _ ?_ rfl _ _ rfl D k dc _ rfl ho ?_ ?_ rfl hkb ?_); (focus (first | rfl | (simp; done))); (focus (repeat (first | exact Below.refl _ _ | assumption | refine bExt ?_ _ | refine bAlloc ?_ _ | refine bDrewN ?_ _ | refine bDrew ?_ | refine bSet ?_ (by first | exact Nat.le_refl _ | omega | (simp; done) | (simp; omega)) _))); (focus (repeat (first | exact Below.refl _ _ | assumption | refine bExt ?_ _ | refine bAlloc ?_ _ | refine bDrewN ?_ _ | refine bDrew ?_ | refine bSet ?_ (by first | exact Nat.le_refl _ | omega | (simp; done) | (simp; omega)) _))); intro D' c' y' ho' hg hd))
      go_roundw
      case rel => exact ⟨k + 1, D', c', y', by omega, by go_num, rfl, rfl, by rw [HSk.out]; exact ho'⟩
      case measure => simp [intOf]; omega
    · obtain rfl : k = kn := by omega
      go_wp2
      go_ret
      exact RetI.mk_ ho (by first | (simp [go_sem]; done) | (simp [go_sem]; omega)) (by repeat (first | exact Below.refl _ _ | assumption | refine bExt ?_ _ | refine bAlloc ?_ _ | refine bDrewN ?_ _ | refine bDrew ?_ | refine bSet ?_ (by first | exact Nat.le_refl _ | omega | (simp; done) | (simp; omega)) _))
set_option maxHeartbeats 1000000 in
theorem cpScores_any (w : World) (GA KA : Option Addr) (gn gc kn kc : Nat) (kk : List (List Int)) (hK : RdM w KA kn kk) (hkn : kn ≤ 1000) (hk : ∀ k, k < kn → KrG (kk[k]?.getD [])) (most : Int) :
    Calls Tryz.prog 160 #[.agg #[.slice GA gn gc, .slice KA kn kc], .int .i64 most] w (RetI w (mapN (capAt kk most) kn)) := by
  have HS := fun k => Lib.hid (mapN_succ (capAt kk most) k)
  go_enter Tryz.func160, Tryz.ntmps160
  go_wp2
  go_loopw [5, 6, 10] (fun t _ i wr => ∃ (k : Nat) (D : Option Addr) (dc : Nat) (y : World), k ≤ kn ∧ i = .int .i64 k ∧ t = .slice D k dc ∧ wr = ext (w.alloc (.cells #[.slice GA gn gc, .slice KA kn kc] 43)) y ∧ OwI (w.alloc (.cells #[.slice GA gn gc, .slice KA kn kc] 43)).heap.size (ext (w.alloc (.cells #[.slice GA gn gc, .slice KA kn kc] 43)) y) D k dc (mapN (capAt kk most) k)) (fun _ _ i _ => kn - (intOf i).toNat)
  case atStart =>
    obtain ⟨y, hy⟩ := ext_ex (Below.refl (w.alloc (.cells #[.slice GA gn gc, .slice KA kn kc] 43)).heap.size (w.alloc (.cells #[.slice GA gn gc, .slice KA kn kc] 43)))
    exact ⟨0, none, 0, y, by omega, rfl, rfl, hy, by rw [mapN_zero]; exact OwI.nil_⟩
  case round =>
    obtain ⟨k, D, dc, y, hkk, rfl, rfl, rfl, ho⟩ := hrel
    by_cases hlt : k < kn
    · have ck := fun W (h : Below w.heap.size w W) => cpScore_any W GA KA gn gc kn kc kk (hK.below h) k hlt (hk k hlt)
      have cl := fun W => l1Least_any (cmAt kk k) most W
      have HSk : Hid (mapN (capAt kk most) (k + 1) = mapN (capAt kk most) k ++ [min (cmAt kk k) most]) := (HS k).out
      have hkb : k ≤ 1099511627776 := by omega
      clear HS hk hK
      generalize mapN (capAt kk most) k = out at *
      generalize cmAt kk k = v at *
      go_wp2_with (first | (go_at_call 176; ((with_reducible refine (ck _ (by repeat (first | exact Below.refl _ _ | assumption | refine bExt ?_ _ | refine bAlloc ?_ _ | refine bDrewN ?_ _ | refine bDrew ?_ | refine bSet ?_ (by first | exact Nat.le_refl _ | omega | (simp; done) | (simp; omega)) _))).mono ?_); rintro e w' ⟨rfl, x, rfl⟩)) | (go_at_call 161; ((with_reducible refine (cl _).mono ?_); rintro e w' ⟨rfl, rfl⟩)) | (at_builtin; (refine wpl_push_int (w.alloc (.cells #[.slice GA gn gc, .slice KA kn kc] 43)) _ _ _ ?_ rfl _ _ rfl D k dc _ rfl ho ?_ ?_ rfl hkb ?_); (focus (first | rfl | (simp; done))); (focus (repeat (first | exact Below.refl _ _ | assumption | refine bExt ?_ _ | refine bAlloc ?_ _ | refine bDrewN ?_ _ | refine bDrew ?_ | refine bSet ?_ (by first | exact Nat.le_refl _ | omega | (simp; done) | (simp; omega)) _))); (focus (repeat (first | exact Below.refl _ _ | assumption | refine bExt ?_ _ | refine bAlloc ?_ _ | refine bDrewN ?_ _ | refine bDrew ?_ | refine bSet ?_ (by first | exact Nat.le_refl _ | omega | (simp; done) | (simp; omega)) _))); intro D' c' y' ho' hg hd))
      go_roundw
      case rel => exact ⟨k + 1, D', c', y', by omega, by go_num, rfl, rfl, by rw [HSk.out]; exact ho'⟩
      case measure => simp [intOf]; omega
    · obtain rfl : k = kn := by omega
      go_wp2
      go_ret
      exact RetI.mk_ ho (by first | (simp [go_sem]; done) | (simp [go_sem]; omega)) (by repeat (first | exact Below.refl _ _ | assumption | refine bExt ?_ _ | refine bAlloc ?_ _ | refine bDrewN ?_ _ | refine bDrew ?_ | refine bSet ?_ (by first | exact Nat.le_refl _ | omega | (simp; done) | (simp; omega)) _))
end Go.Proofs.YtfmidngndddfiaaGreatDoor
namespace Go.Proofs.YtfmidngndddfiaaGreatDoor
open Go.RowKit
/-- A row of its own, made last. -/
theorem RetI.alloc_ {w X : World} {l : List Int} {g n m : Nat} {cs : Array Value} (hb : Below w.heap.size w X) (hg : g = X.heap.size) (hn : n = l.length) (hm : m = l.length) (hl : l.length ≤ 1000) (hcs : cs.toList = l.map (Value.int .i64)) : RetI w l (.returned (.slice (some ⟨g, 0, none⟩) n m)) (X.alloc (.cells cs 3)) := by
  subst hg hn hm
  exact RetI.mk_ (OwI.lit_ hb l (by simp only [maxLen]; omega) cs hcs) (Nat.le_refl _) (bAlloc hb _)
theorem RetI.allocd_ {w X : World} {l : List Int} {g n m : Nat} {cs : Array Value} (hb : Below w.heap.size w X) (hg : g = X.heap.size) (hn : n = l.length) (hm : m = l.length) (hl : l.length ≤ 1000) (hcs : cs.toList = l.map (Value.int .i64)) : RetI w l (.returned (.slice (some ⟨g, 0, none⟩) n m)) (X.alloc (.cells cs 3)).drew := by
  subst hg hn hm
  exact RetI.mk_ ((OwI.lit_ hb l (by simp only [maxLen]; omega) cs hcs).below (bDrew (Below.refl _ _))) (Nat.le_refl _) (bDrew (bAlloc hb _))
set_option maxHeartbeats 2000000 in
theorem cappedSum_any (w : World) (GA KA : Option Addr) (gn gc kn kc : Nat) (gg kk : List (List Int)) (hK : RdM w KA kn kk) (hm : marksB gg kk = true) (falls : Int) (hf : 0 ≤ falls) :
    Calls Tryz.prog 136 #[.agg #[.slice GA gn gc, .slice KA kn kc], .int .i64 falls] w (fun e w' => e = .returned (.int .i64 (capV kk falls)) ∧ ∃ y, w' = ext w y) := by
  have Hl := Lib.hid hK.len
  have h3 := (marksB_of hm).1
  rw [Hl.out] at h3
  obtain rfl := h3.symm
  have hk : ∀ k, k < 3 → KrG (kk[k]?.getD []) := fun k hk => kRow_of hm (by rw [Hl.out]; exact hk)
  have cc := fun W (h : Below w.heap.size w W) => componentScores_any W GA KA gn gc 3 kc kk (hK.below h) (by omega) hk
  rcases (show falls = 0 ∨ falls = 1 ∨ 1 < falls by omega) with h | h | h
  · have HV : Hid (capV kk falls = sumN (capAt kk 1000) 3) := by unfold Hid capV ceilV; rw [if_pos h]
    have HG := fun k => @mapN_get (cmAt kk) 3 k
    have HS := fun k => Lib.hid (sumN_succ (capAt kk 1000) k)
    have HB : ∀ k, k ≤ 3 → -66021 ≤ sumN (capAt kk 1000) k ∧ sumN (capAt kk 1000) k ≤ 66021 := fun k hk3 => by
      have := sumN_bd (f := capAt kk 1000) (c := 22007) k (fun j hj => capAt_bd (hk j (by omega)) (by omega))
      omega
    have HC : ∀ k, k < 3 → -22007 ≤ cmAt kk k ∧ cmAt kk k ≤ 22007 := fun k hk3 => cmV_bd (hk k hk3)
    subst h
    clear hm hk hK
    go_enter Tryz.func136, Tryz.ntmps136
    go_wp2_with ((go_at_call 163; ((with_reducible refine (cc _ (by repeat (first | exact Below.refl _ _ | assumption | refine bExt ?_ _ | refine bAlloc ?_ _ | refine bDrewN ?_ _ | refine bDrew ?_ | refine bSet ?_ (by first | exact Nat.le_refl _ | omega | (simp; done) | (simp; omega)) _))).mono ?_); rintro e w' ⟨A1, n1, c1, x1, rfl, rfl, o1⟩; (obtain rfl : n1 = 3 := o1.len.symm.trans (mapN_len _ 3)))))
    obtain ⟨g, rfl, hg1, hg2⟩ := o1.form_ (by omega)
    have hce := fun k (hk3 : k < 3) => o1.cell_ k hk3
    clear o1 cc
    go_loop [6, 8, 18] (fun t _ i => ∃ k : Nat, k ≤ 3 ∧ i = .int .i64 k ∧ t = .int .i64 (sumN (capAt kk 1000) k)) (fun _ _ i => 3 - (intOf i).toNat)
    case atStart => exact ⟨0, by omega, rfl, rfl⟩
    case round =>
      obtain ⟨k, hk, rfl, rfl⟩ := hrel
      by_cases hlt : k < 3
      · have hck := hce k hlt
        rw [HG k hlt] at hck
        have h1 := HB k hk
        have h2 := HC k hlt
        have HSk : Hid (sumN (capAt kk 1000) (k + 1) = sumN (capAt kk 1000) k + min (cmAt kk k) 1000) := (HS k).out
        clear hce HB HC HS HG
        generalize cmAt kk k = x at *
        generalize sumN (capAt kk 1000) k = s at *
        have e1 : IntKind.i64.wrap (s + min x 1000) = s + min x 1000 := IntWalk.i64_in _ (by omega)
        go_wp2
        go_round
        case rel => exact ⟨k + 1, by omega, by go_num, by rw [HSk.out]⟩
        case measure => simp [intOf]; omega
      · obtain rfl : k = 3 := by omega
        go_wp2
        go_ret
        exact ⟨ret_int (by rw [HV.out]), ext_ex (by repeat (first | exact Below.refl _ _ | assumption | refine bExt ?_ _ | refine bAlloc ?_ _ | refine bDrewN ?_ _ | refine bDrew ?_ | refine bSet ?_ (by first | exact Nat.le_refl _ | omega | (simp; done) | (simp; omega)) _))⟩
  · have HV : Hid (capV kk falls = sumN (capAt kk 950) 3) := by unfold Hid capV ceilV; rw [if_neg (by omega), if_pos h]
    have HG := fun k => @mapN_get (cmAt kk) 3 k
    have HS := fun k => Lib.hid (sumN_succ (capAt kk 950) k)
    have HB : ∀ k, k ≤ 3 → -66021 ≤ sumN (capAt kk 950) k ∧ sumN (capAt kk 950) k ≤ 66021 := fun k hk3 => by
      have := sumN_bd (f := capAt kk 950) (c := 22007) k (fun j hj => capAt_bd (hk j (by omega)) (by omega))
      omega
    have HC : ∀ k, k < 3 → -22007 ≤ cmAt kk k ∧ cmAt kk k ≤ 22007 := fun k hk3 => cmV_bd (hk k hk3)
    subst h
    clear hm hk hK
    go_enter Tryz.func136, Tryz.ntmps136
    go_wp2_with ((go_at_call 163; ((with_reducible refine (cc _ (by repeat (first | exact Below.refl _ _ | assumption | refine bExt ?_ _ | refine bAlloc ?_ _ | refine bDrewN ?_ _ | refine bDrew ?_ | refine bSet ?_ (by first | exact Nat.le_refl _ | omega | (simp; done) | (simp; omega)) _))).mono ?_); rintro e w' ⟨A1, n1, c1, x1, rfl, rfl, o1⟩; (obtain rfl : n1 = 3 := o1.len.symm.trans (mapN_len _ 3)))))
    obtain ⟨g, rfl, hg1, hg2⟩ := o1.form_ (by omega)
    have hce := fun k (hk3 : k < 3) => o1.cell_ k hk3
    clear o1 cc
    go_loop [6, 8, 18] (fun t _ i => ∃ k : Nat, k ≤ 3 ∧ i = .int .i64 k ∧ t = .int .i64 (sumN (capAt kk 950) k)) (fun _ _ i => 3 - (intOf i).toNat)
    case atStart => exact ⟨0, by omega, rfl, rfl⟩
    case round =>
      obtain ⟨k, hk, rfl, rfl⟩ := hrel
      by_cases hlt : k < 3
      · have hck := hce k hlt
        rw [HG k hlt] at hck
        have h1 := HB k hk
        have h2 := HC k hlt
        have HSk : Hid (sumN (capAt kk 950) (k + 1) = sumN (capAt kk 950) k + min (cmAt kk k) 950) := (HS k).out
        clear hce HB HC HS HG
        generalize cmAt kk k = x at *
        generalize sumN (capAt kk 950) k = s at *
        have e1 : IntKind.i64.wrap (s + min x 950) = s + min x 950 := IntWalk.i64_in _ (by omega)
        go_wp2
        go_round
        case rel => exact ⟨k + 1, by omega, by go_num, by rw [HSk.out]⟩
        case measure => simp [intOf]; omega
      · obtain rfl : k = 3 := by omega
        go_wp2
        go_ret
        exact ⟨ret_int (by rw [HV.out]), ext_ex (by repeat (first | exact Below.refl _ _ | assumption | refine bExt ?_ _ | refine bAlloc ?_ _ | refine bDrewN ?_ _ | refine bDrew ?_ | refine bSet ?_ (by first | exact Nat.le_refl _ | omega | (simp; done) | (simp; omega)) _))⟩
  · have HV : Hid (capV kk falls = sumN (capAt kk 900) 3) := by unfold Hid capV ceilV; rw [if_neg (by omega), if_neg (by omega)]
    have HG := fun k => @mapN_get (cmAt kk) 3 k
    have HS := fun k => Lib.hid (sumN_succ (capAt kk 900) k)
    have HB : ∀ k, k ≤ 3 → -66021 ≤ sumN (capAt kk 900) k ∧ sumN (capAt kk 900) k ≤ 66021 := fun k hk3 => by
      have := sumN_bd (f := capAt kk 900) (c := 22007) k (fun j hj => capAt_bd (hk j (by omega)) (by omega))
      omega
    have HC : ∀ k, k < 3 → -22007 ≤ cmAt kk k ∧ cmAt kk k ≤ 22007 := fun k hk3 => cmV_bd (hk k hk3)
    have hn1 : ¬ falls = 1 := by omega
    clear hm hk hK
    go_enter Tryz.func136, Tryz.ntmps136
    go_wp2_with ((go_at_call 163; ((with_reducible refine (cc _ (by repeat (first | exact Below.refl _ _ | assumption | refine bExt ?_ _ | refine bAlloc ?_ _ | refine bDrewN ?_ _ | refine bDrew ?_ | refine bSet ?_ (by first | exact Nat.le_refl _ | omega | (simp; done) | (simp; omega)) _))).mono ?_); rintro e w' ⟨A1, n1, c1, x1, rfl, rfl, o1⟩; (obtain rfl : n1 = 3 := o1.len.symm.trans (mapN_len _ 3)))))
    obtain ⟨g, rfl, hg1, hg2⟩ := o1.form_ (by omega)
    have hce := fun k (hk3 : k < 3) => o1.cell_ k hk3
    clear o1 cc
    go_loop [6, 8, 18] (fun t _ i => ∃ k : Nat, k ≤ 3 ∧ i = .int .i64 k ∧ t = .int .i64 (sumN (capAt kk 900) k)) (fun _ _ i => 3 - (intOf i).toNat)
    case atStart => exact ⟨0, by omega, rfl, rfl⟩
    case round =>
      obtain ⟨k, hk, rfl, rfl⟩ := hrel
      by_cases hlt : k < 3
      · have hck := hce k hlt
        rw [HG k hlt] at hck
        have h1 := HB k hk
        have h2 := HC k hlt
        have HSk : Hid (sumN (capAt kk 900) (k + 1) = sumN (capAt kk 900) k + min (cmAt kk k) 900) := (HS k).out
        clear hce HB HC HS HG
        generalize cmAt kk k = x at *
        generalize sumN (capAt kk 900) k = s at *
        have e1 : IntKind.i64.wrap (s + min x 900) = s + min x 900 := IntWalk.i64_in _ (by omega)
        go_wp2
        go_round
        case rel => exact ⟨k + 1, by omega, by go_num, by rw [HSk.out]⟩
        case measure => simp [intOf]; omega
      · obtain rfl : k = 3 := by omega
        go_wp2
        go_ret
        exact ⟨ret_int (by rw [HV.out]), ext_ex (by repeat (first | exact Below.refl _ _ | assumption | refine bExt ?_ _ | refine bAlloc ?_ _ | refine bDrewN ?_ _ | refine bDrew ?_ | refine bSet ?_ (by first | exact Nat.le_refl _ | omega | (simp; done) | (simp; omega)) _))⟩
set_option maxHeartbeats 1000000 in
theorem cpSum_any (w : World) (GA KA : Option Addr) (gn gc kn kc : Nat) (gg kk : List (List Int)) (hK : RdM w KA kn kk) (hm : marksB gg kk = true) (falls : Int) (hf : 0 ≤ falls) :
    Calls Tryz.prog 132 #[.agg #[.slice GA gn gc, .slice KA kn kc], .int .i64 falls] w (fun e w' => e = .returned (.int .i64 (capV kk falls)) ∧ ∃ y, w' = ext w y) := by
  have Hl := Lib.hid hK.len
  have h3 := (marksB_of hm).1
  rw [Hl.out] at h3
  obtain rfl := h3.symm
  have hk : ∀ k, k < 3 → KrG (kk[k]?.getD []) := fun k hk => kRow_of hm (by rw [Hl.out]; exact hk)
  rcases (show falls = 0 ∨ falls = 1 ∨ 1 < falls by omega) with h | h | h
  · have HV : Hid (capV kk falls = sumN (capAt kk 1000) 3) := by unfold Hid capV ceilV; rw [if_pos h]
    have cc := fun W (h : Below w.heap.size w W) => cpScores_any W GA KA gn gc 3 kc kk (hK.below h) (by omega) hk 1000
    have HB : Hid (∀ x ∈ mapN (capAt kk 1000) 3, -100000 ≤ x ∧ x ≤ 100000) := mapN_mem fun j hj => by have := capAt_bd (most := 1000) (hk j hj) (by omega); omega
    have HT := Lib.hid (sumN_to (capAt kk 1000) 3)
    have hln := mapN_len (capAt kk 1000) 3
    subst h
    clear hm hk hK
    generalize sumN (capAt kk 1000) 3 = sv at *
    generalize mapN (capAt kk 1000) 3 = l at *
    go_enter Tryz.func132, Tryz.ntmps132
    go_wp2_with (first | (go_at_call 160; ((with_reducible refine (cc _ (by repeat (first | exact Below.refl _ _ | assumption | refine bExt ?_ _ | refine bAlloc ?_ _ | refine bDrewN ?_ _ | refine bDrew ?_ | refine bSet ?_ (by first | exact Nat.le_refl _ | omega | (simp; done) | (simp; omega)) _))).mono ?_); rintro e w' ⟨A1, n1, c1, x1, rfl, rfl, o1⟩; (obtain rfl : n1 = 3 := o1.len.symm.trans hln))) | (go_at_call 130; ((with_reducible refine (poSum_any _ _ _ _ _ o1.rd (by omega) HB.out).mono ?_); rintro e w' ⟨rfl, rfl⟩)))
    go_ret
    exact ⟨ret_int (by rw [HV.out, HT.out]), ext_ex (by repeat (first | exact Below.refl _ _ | assumption | refine bExt ?_ _ | refine bAlloc ?_ _ | refine bDrewN ?_ _ | refine bDrew ?_ | refine bSet ?_ (by first | exact Nat.le_refl _ | omega | (simp; done) | (simp; omega)) _))⟩
  · have HV : Hid (capV kk falls = sumN (capAt kk 950) 3) := by unfold Hid capV ceilV; rw [if_neg (by omega), if_pos h]
    have cc := fun W (h : Below w.heap.size w W) => cpScores_any W GA KA gn gc 3 kc kk (hK.below h) (by omega) hk 950
    have HB : Hid (∀ x ∈ mapN (capAt kk 950) 3, -100000 ≤ x ∧ x ≤ 100000) := mapN_mem fun j hj => by have := capAt_bd (most := 950) (hk j hj) (by omega); omega
    have HT := Lib.hid (sumN_to (capAt kk 950) 3)
    have hln := mapN_len (capAt kk 950) 3
    subst h
    clear hm hk hK
    generalize sumN (capAt kk 950) 3 = sv at *
    generalize mapN (capAt kk 950) 3 = l at *
    go_enter Tryz.func132, Tryz.ntmps132
    go_wp2_with (first | (go_at_call 160; ((with_reducible refine (cc _ (by repeat (first | exact Below.refl _ _ | assumption | refine bExt ?_ _ | refine bAlloc ?_ _ | refine bDrewN ?_ _ | refine bDrew ?_ | refine bSet ?_ (by first | exact Nat.le_refl _ | omega | (simp; done) | (simp; omega)) _))).mono ?_); rintro e w' ⟨A1, n1, c1, x1, rfl, rfl, o1⟩; (obtain rfl : n1 = 3 := o1.len.symm.trans hln))) | (go_at_call 130; ((with_reducible refine (poSum_any _ _ _ _ _ o1.rd (by omega) HB.out).mono ?_); rintro e w' ⟨rfl, rfl⟩)))
    go_ret
    exact ⟨ret_int (by rw [HV.out, HT.out]), ext_ex (by repeat (first | exact Below.refl _ _ | assumption | refine bExt ?_ _ | refine bAlloc ?_ _ | refine bDrewN ?_ _ | refine bDrew ?_ | refine bSet ?_ (by first | exact Nat.le_refl _ | omega | (simp; done) | (simp; omega)) _))⟩
  · have HV : Hid (capV kk falls = sumN (capAt kk 900) 3) := by unfold Hid capV ceilV; rw [if_neg (by omega), if_neg (by omega)]
    have cc := fun W (h : Below w.heap.size w W) => cpScores_any W GA KA gn gc 3 kc kk (hK.below h) (by omega) hk 900
    have HB : Hid (∀ x ∈ mapN (capAt kk 900) 3, -100000 ≤ x ∧ x ≤ 100000) := mapN_mem fun j hj => by have := capAt_bd (most := 900) (hk j hj) (by omega); omega
    have HT := Lib.hid (sumN_to (capAt kk 900) 3)
    have hln := mapN_len (capAt kk 900) 3
    have hn1 : ¬ falls = 1 := by omega
    have hn0 : ¬ falls = 0 := by omega
    clear hm hk hK
    generalize sumN (capAt kk 900) 3 = sv at *
    generalize mapN (capAt kk 900) 3 = l at *
    go_enter Tryz.func132, Tryz.ntmps132
    go_wp2_with (first | (go_at_call 160; ((with_reducible refine (cc _ (by repeat (first | exact Below.refl _ _ | assumption | refine bExt ?_ _ | refine bAlloc ?_ _ | refine bDrewN ?_ _ | refine bDrew ?_ | refine bSet ?_ (by first | exact Nat.le_refl _ | omega | (simp; done) | (simp; omega)) _))).mono ?_); rintro e w' ⟨A1, n1, c1, x1, rfl, rfl, o1⟩; (obtain rfl : n1 = 3 := o1.len.symm.trans hln))) | (go_at_call 130; ((with_reducible refine (poSum_any _ _ _ _ _ o1.rd (by omega) HB.out).mono ?_); rintro e w' ⟨rfl, rfl⟩)))
    go_ret
    exact ⟨ret_int (by rw [HV.out, HT.out]), ext_ex (by repeat (first | exact Below.refl _ _ | assumption | refine bExt ?_ _ | refine bAlloc ?_ _ | refine bDrewN ?_ _ | refine bDrew ?_ | refine bSet ?_ (by first | exact Nat.le_refl _ | omega | (simp; done) | (simp; omega)) _))⟩
theorem factoredSum_any (w : World) (GA KA : Option Addr) (gn gc kn kc : Nat) (gg kk : List (List Int)) (hK : RdM w KA kn kk) (hm : marksB gg kk = true) (falls : Int) (hf : 0 ≤ falls) (factor : Int) (hfa : 10 ≤ factor ∧ factor ≤ 400) :
    Calls Tryz.prog 105 #[.agg #[.slice GA gn gc, .slice KA kn kc], .int .i64 factor, .int .i64 falls] w (fun e w' => e = .returned (.int .i64 (facV kk factor falls)) ∧ ∃ y, w' = ext w y) := by
  have cs := fun W (h : Below w.heap.size w W) => cappedSum_any W GA KA gn gc kn kc gg kk (hK.below h) hm falls hf
  have hmul := cap_mul (falls := falls) hm hfa
  have HV : Hid (facV kk factor falls = roundV (capV kk falls * factor) 100) := rfl
  clear hK hm
  generalize capV kk falls = s at *
  have e1 : IntKind.i64.wrap (s * factor) = s * factor := IntWalk.i64_in _ (by omega)
  have cr := fun W => roundDiv_any (s * factor) 100 W (by omega) (by omega) (by omega) (by omega)
  go_enter Tryz.func105, Tryz.ntmps105
  go_wp2_with (first | (go_at_call 136; ((with_reducible refine (cs _ (by repeat (first | exact Below.refl _ _ | assumption | refine bExt ?_ _ | refine bAlloc ?_ _ | refine bDrewN ?_ _ | refine bDrew ?_ | refine bSet ?_ (by first | exact Nat.le_refl _ | omega | (simp; done) | (simp; omega)) _))).mono ?_); rintro e w' ⟨rfl, y1, rfl⟩)) | (go_at_call 94; ((with_reducible refine (cr _).mono ?_); rintro e w' ⟨rfl, rfl⟩)))
  go_ret
  exact ⟨ret_int (by rw [HV.out]), ext_ex (by repeat (first | exact Below.refl _ _ | assumption | refine bExt ?_ _ | refine bAlloc ?_ _ | refine bDrewN ?_ _ | refine bDrew ?_ | refine bSet ?_ (by first | exact Nat.le_refl _ | omega | (simp; done) | (simp; omega)) _))⟩
theorem cpFactored_any (w : World) (GA KA : Option Addr) (gn gc kn kc : Nat) (gg kk : List (List Int)) (hK : RdM w KA kn kk) (hm : marksB gg kk = true) (falls : Int) (hf : 0 ≤ falls) (factor : Int) (hfa : 10 ≤ factor ∧ factor ≤ 400) :
    Calls Tryz.prog 101 #[.agg #[.slice GA gn gc, .slice KA kn kc], .int .i64 factor, .int .i64 falls] w (fun e w' => e = .returned (.int .i64 (facV kk factor falls)) ∧ ∃ y, w' = ext w y) := by
  have cs := fun W (h : Below w.heap.size w W) => cpSum_any W GA KA gn gc kn kc gg kk (hK.below h) hm falls hf
  have hmul := cap_mul (falls := falls) hm hfa
  have HV : Hid (facV kk factor falls = roundV (capV kk falls * factor) 100) := rfl
  clear hK hm
  generalize capV kk falls = s at *
  have e1 : IntKind.i64.wrap (s * factor) = s * factor := IntWalk.i64_in _ (by omega)
  have cr := fun W => poRound_any (s * factor) 100 W (by omega) (by omega) (by omega) (by omega)
  go_enter Tryz.func101, Tryz.ntmps101
  go_wp2_with (first | (go_at_call 132; ((with_reducible refine (cs _ (by repeat (first | exact Below.refl _ _ | assumption | refine bExt ?_ _ | refine bAlloc ?_ _ | refine bDrewN ?_ _ | refine bDrew ?_ | refine bSet ?_ (by first | exact Nat.le_refl _ | omega | (simp; done) | (simp; omega)) _))).mono ?_); rintro e w' ⟨rfl, y1, rfl⟩)) | (go_at_call 116; ((with_reducible refine (cr _).mono ?_); rintro e w' ⟨rfl, rfl⟩)))
  go_ret
  exact ⟨ret_int (by rw [HV.out]), ext_ex (by repeat (first | exact Below.refl _ _ | assumption | refine bExt ?_ _ | refine bAlloc ?_ _ | refine bDrewN ?_ _ | refine bDrew ?_ | refine bSet ?_ (by first | exact Nat.le_refl _ | omega | (simp; done) | (simp; omega)) _))⟩
theorem fallDeduction_any (fall falls : Int) (w : World) (hfa : 0 ≤ fall ∧ fall ≤ 500) (hf : 0 ≤ falls ∧ falls ≤ 9) :
    Calls Tryz.prog 137 #[.int .i64 fall, .int .i64 falls] w fun e w' => e = .returned (.int .i64 (fallV fall falls)) ∧ w = w' := by
  have hb := fallV_bd hfa hf
  have HV : Hid (fallV fall falls = fall * (falls + max (falls - 2) 0 + max (falls - 4) 0)) := rfl
  rw [HV.out] at hb
  have e0 : IntKind.i64.wrap (falls - 2) = falls - 2 := IntWalk.i64_in _ (by omega)
  have e1 : IntKind.i64.wrap (falls - 4) = falls - 4 := IntWalk.i64_in _ (by omega)
  have e2 : IntKind.i64.wrap (falls + max (falls - 2) 0) = falls + max (falls - 2) 0 := IntWalk.i64_in _ (by omega)
  have e3 : IntKind.i64.wrap (falls + max (falls - 2) 0 + max (falls - 4) 0) = falls + max (falls - 2) 0 + max (falls - 4) 0 := IntWalk.i64_in _ (by omega)
  have e4 : IntKind.i64.wrap (fall * (falls + max (falls - 2) 0 + max (falls - 4) 0)) = fall * (falls + max (falls - 2) 0 + max (falls - 4) 0) := IntWalk.i64_in _ (by omega)
  go_enter Tryz.func137, Tryz.ntmps137
  go_wp2
  go_ret
  exact ⟨ret_int (by rw [HV.out]), rfl⟩
theorem dcFalls_any (fall falls : Int) (w : World) (hfa : 0 ≤ fall ∧ fall ≤ 500) (hf : 0 ≤ falls ∧ falls ≤ 9) :
    Calls Tryz.prog 133 #[.int .i64 fall, .int .i64 falls] w fun e w' => e = .returned (.int .i64 (fallV fall falls)) ∧ w = w' := by
  obtain ⟨n, rfl⟩ : ∃ n : Nat, falls = n := ⟨falls.toNat, by omega⟩
  have HS := fun k => Lib.hid (sumN_succ (fallAt fall) k)
  have HV := Lib.hid (fall_sum fall n)
  have HB : ∀ k, k ≤ n → -10500 ≤ sumN (fallAt fall) k ∧ sumN (fallAt fall) k ≤ 10500 := fun k hk => by rw [fall_sum]; exact fallV_bd hfa (by omega)
  have HM : ∀ k : Nat, 0 ≤ fall * min 3 ((k : Int) / 2 + 1) ∧ fall * min 3 ((k : Int) / 2 + 1) ≤ 1500 := fun k => by
    have := mul_bd (A := 500) (B := 3) (a := fall) (b := min 3 ((k : Int) / 2 + 1)) (by omega) (by omega) (by omega) (by omega)
    exact ⟨Int.mul_nonneg hfa.1 (by omega), by omega⟩
  go_enter Tryz.func133, Tryz.ntmps133
  go_wp2
  go_loop [5, 6] (fun t i => ∃ k : Nat, k ≤ n ∧ i = .int .i64 k ∧ t = .int .i64 (sumN (fallAt fall) k)) (fun _ i => n - (intOf i).toNat)
  case atStart => exact ⟨0, by omega, rfl, rfl⟩
  case round =>
    obtain ⟨k, hk, rfl, rfl⟩ := hrel
    by_cases hlt : k < n
    · have h1 := HB k hk
      have h2 := HM k
      have HSk : Hid (sumN (fallAt fall) (k + 1) = sumN (fallAt fall) k + fall * min 3 ((k : Int) / 2 + 1)) := (HS k).out
      have hltI : (k : Int) < n := by omega
      clear HS HV HB HM
      generalize sumN (fallAt fall) k = s at *
      have e0 : (k : Int).tdiv 2 = (k : Int) / 2 := Int.tdiv_eq_ediv_of_nonneg (by omega)
      obtain ⟨q, hq⟩ : ∃ q : Int, (k : Int) / 2 = q := ⟨_, rfl⟩
      rw [hq] at e0 h2 HSk
      have hq2 : 0 ≤ q ∧ q ≤ 5 := by omega
      have e1 : IntKind.i64.wrap q = q := IntWalk.i64_in _ (by omega)
      have e2 : IntKind.i64.wrap (q + 1) = q + 1 := IntWalk.i64_in _ (by omega)
      have e3 : IntKind.i64.wrap (fall * min 3 (q + 1)) = fall * min 3 (q + 1) := IntWalk.i64_in _ (by omega)
      have e4 : IntKind.i64.wrap (s + fall * min 3 (q + 1)) = s + fall * min 3 (q + 1) := IntWalk.i64_in _ (by omega)
      have cl := fun W => l1Least_any 3 (q + 1) W
      clear hq
      go_wp2_with ((go_at_call 161; ((with_reducible refine (cl _).mono ?_); rintro e w' ⟨rfl, rfl⟩)))
      go_round
      case rel => exact ⟨k + 1, by omega, by go_num, by rw [HSk.out]⟩
      case measure => simp [intOf]; omega
    · obtain rfl : k = n := by omega
      go_wp2
      go_ret
      exact ⟨ret_int (by rw [HV.out]), rfl⟩
theorem timeDeduction_any (s : Int) (w : World) (hs : 0 ≤ s ∧ s ≤ 60) :
    Calls Tryz.prog 138 #[.int .i64 s] w fun e w' => e = .returned (.int .i64 (timeV s)) ∧ w = w' := by
  have HV : Hid (timeV s = (s + 4) / 5 * 100) := rfl
  have e1 : (s + 4).tdiv 5 = (s + 4) / 5 := Int.tdiv_eq_ediv_of_nonneg (by omega)
  have e2 : IntKind.i64.wrap (s + 4) = s + 4 := IntWalk.i64_in _ (by omega)
  have e3 : IntKind.i64.wrap ((s + 4) / 5) = (s + 4) / 5 := IntWalk.i64_in _ (by omega)
  have e4 : IntKind.i64.wrap ((s + 4) / 5 * 100) = (s + 4) / 5 * 100 := IntWalk.i64_in _ (by omega)
  go_enter Tryz.func138, Tryz.ntmps138
  go_wp2
  go_ret
  exact ⟨ret_int (by rw [HV.out]), rfl⟩
theorem dcTime_any (s : Int) (w : World) (hs : 0 ≤ s ∧ s ≤ 60) :
    Calls Tryz.prog 134 #[.int .i64 s] w fun e w' => e = .returned (.int .i64 (timeV s)) ∧ w = w' := by
  have HV : Hid (timeV s = (s + 4) / 5 * 100) := rfl
  have e1 : (s + 4).tdiv 5 = (s + 4) / 5 := Int.tdiv_eq_ediv_of_nonneg (by omega)
  have e2 : IntKind.i64.wrap (s + 4) = s + 4 := IntWalk.i64_in _ (by omega)
  have e3 : IntKind.i64.wrap ((s + 4) / 5) = (s + 4) / 5 := IntWalk.i64_in _ (by omega)
  have e4 : IntKind.i64.wrap ((s + 4) / 5 * 100) = (s + 4) / 5 * 100 := IntWalk.i64_in _ (by omega)
  go_enter Tryz.func134, Tryz.ntmps134
  go_wp2
  go_ret
  exact ⟨ret_int (by rw [HV.out]), rfl⟩
set_option maxHeartbeats 1000000 in
theorem slipPoints_any (w : World) (A B : Option Addr) (n m c d : Nat) (q0 q1 q2 q3 s1 s2 s3 : Int) (hq : 0 ≤ q3 ∧ q3 ≤ 500) (hs : slipB s1 s2 s3 = true) :
    Calls Tryz.prog 107 #[.agg #[.slice A n c, .slice B m d, .int .i64 q0, .int .i64 q1, .int .i64 q2, .int .i64 q3], .agg #[.int .i64 s1, .int .i64 s2, .int .i64 s3]] w (RetI w [fallV q3 s1, timeV s2, s3]) := by
  have hsl := slip_of hs
  have b1 := fallV_bd hq hsl.1
  have b2 := timeV_bd hsl.2.1
  have cf := fun W => fallDeduction_any q3 s1 W hq hsl.1
  have ct := fun W => timeDeduction_any s2 W hsl.2.1
  generalize fallV q3 s1 = fv at *
  generalize timeV s2 = tv at *
  clear hs hq
  have hR : ((w.alloc (.cells #[.slice A n c, .slice B m d, .int .i64 q0, .int .i64 q1, .int .i64 q2, .int .i64 q3] 40)).alloc (.cells #[.int .i64 s1, .int .i64 s2, .int .i64 s3] 44)).cell? ⟨w.heap.size, 5, none⟩ = some (.int .i64 q3) ∧ ((w.alloc (.cells #[.slice A n c, .slice B m d, .int .i64 q0, .int .i64 q1, .int .i64 q2, .int .i64 q3] 40)).alloc (.cells #[.int .i64 s1, .int .i64 s2, .int .i64 s3] 44)).cell? ⟨w.heap.size + 1, 0, none⟩ = some (.int .i64 s1) ∧ ((w.alloc (.cells #[.slice A n c, .slice B m d, .int .i64 q0, .int .i64 q1, .int .i64 q2, .int .i64 q3] 40)).alloc (.cells #[.int .i64 s1, .int .i64 s2, .int .i64 s3] 44)).cell? ⟨w.heap.size + 1, 1, none⟩ = some (.int .i64 s2) ∧ ((w.alloc (.cells #[.slice A n c, .slice B m d, .int .i64 q0, .int .i64 q1, .int .i64 q2, .int .i64 q3] 40)).alloc (.cells #[.int .i64 s1, .int .i64 s2, .int .i64 s3] 44)).cell? ⟨w.heap.size + 1, 2, none⟩ = some (.int .i64 s3) := by refine ⟨?_, ?_, ?_, ?_⟩ <;> first | assumption | simp [*, go_sem]
  have hS := fun (W : World) (h : Below ((w.alloc (.cells #[.slice A n c, .slice B m d, .int .i64 q0, .int .i64 q1, .int .i64 q2, .int .i64 q3] 40)).alloc (.cells #[.int .i64 s1, .int .i64 s2, .int .i64 s3] 44)).heap.size ((w.alloc (.cells #[.slice A n c, .slice B m d, .int .i64 q0, .int .i64 q1, .int .i64 q2, .int .i64 q3] 40)).alloc (.cells #[.int .i64 s1, .int .i64 s2, .int .i64 s3] 44)) W) => (⟨(h.cell (p := ⟨w.heap.size, 5, none⟩) (by first | assumption | (simp [go_sem]; done) | (simp [go_sem]; omega))).trans hR.1, (h.cell (p := ⟨w.heap.size + 1, 0, none⟩) (by first | assumption | (simp [go_sem]; done) | (simp [go_sem]; omega))).trans hR.2.1, (h.cell (p := ⟨w.heap.size + 1, 1, none⟩) (by first | assumption | (simp [go_sem]; done) | (simp [go_sem]; omega))).trans hR.2.2.1, (h.cell (p := ⟨w.heap.size + 1, 2, none⟩) (by first | assumption | (simp [go_sem]; done) | (simp [go_sem]; omega))).trans hR.2.2.2⟩ : W.cell? ⟨w.heap.size, 5, none⟩ = some (.int .i64 q3) ∧ W.cell? ⟨w.heap.size + 1, 0, none⟩ = some (.int .i64 s1) ∧ W.cell? ⟨w.heap.size + 1, 1, none⟩ = some (.int .i64 s2) ∧ W.cell? ⟨w.heap.size + 1, 2, none⟩ = some (.int .i64 s3))
  clear hR
  go_enter Tryz.func107, Tryz.ntmps107
  go_wp2
  go_region_held3 (fun w' => w'.cell? ⟨w.heap.size, 5, none⟩ = some (.int .i64 q3) ∧ w'.cell? ⟨w.heap.size + 1, 0, none⟩ = some (.int .i64 s1) ∧ w'.cell? ⟨w.heap.size + 1, 1, none⟩ = some (.int .i64 s2) ∧ w'.cell? ⟨w.heap.size + 1, 2, none⟩ = some (.int .i64 s3)) (exact hS _ (by repeat (first | exact Below.refl _ _ | assumption | refine bExt ?_ _ | refine bAlloc ?_ _ | refine bDrewN ?_ _ | refine bDrew ?_ | refine bSet ?_ (by first | exact Nat.le_refl _ | omega | (simp; done) | (simp; omega)) _))) (first | (go_at_call 137; ((with_reducible refine (cf _).mono ?_); rintro e w' ⟨rfl, rfl⟩)) | (go_at_call 138; ((with_reducible refine (ct _).mono ?_); rintro e w' ⟨rfl, rfl⟩)))
  all_goals
    go_wp2
    go_ret
    exact RetI.allocd_ (by repeat (first | exact Below.refl _ _ | assumption | refine bExt ?_ _ | refine bAlloc ?_ _ | refine bDrewN ?_ _ | refine bDrew ?_ | refine bSet ?_ (by first | exact Nat.le_refl _ | omega | (simp; done) | (simp; omega)) _)) (by simp [go_sem]) rfl rfl (by simp) rfl
set_option maxHeartbeats 1000000 in
theorem dcSum_any (w : World) (A B : Option Addr) (n m c d : Nat) (q0 q1 q2 q3 s1 s2 s3 : Int) (hq : 0 ≤ q3 ∧ q3 ≤ 500) (hs : slipB s1 s2 s3 = true) :
    Calls Tryz.prog 102 #[.agg #[.slice A n c, .slice B m d, .int .i64 q0, .int .i64 q1, .int .i64 q2, .int .i64 q3], .agg #[.int .i64 s1, .int .i64 s2, .int .i64 s3]] w (fun e w' => e = .returned (.int .i64 (dedV q3 s1 s2 s3)) ∧ ∃ y, w' = ext w y) := by
  have HV : Hid (dedV q3 s1 s2 s3 = fallV q3 s1 + timeV s2 + s3) := rfl
  have hsl := slip_of hs
  have b1 := fallV_bd hq hsl.1
  have b2 := timeV_bd hsl.2.1
  have cf := fun W => dcFalls_any q3 s1 W hq hsl.1
  have ct := fun W => dcTime_any s2 W hsl.2.1
  generalize fallV q3 s1 = fv at *
  generalize timeV s2 = tv at *
  clear hs hq
  have hR : ((w.alloc (.cells #[.slice A n c, .slice B m d, .int .i64 q0, .int .i64 q1, .int .i64 q2, .int .i64 q3] 40)).alloc (.cells #[.int .i64 s1, .int .i64 s2, .int .i64 s3] 44)).cell? ⟨w.heap.size, 5, none⟩ = some (.int .i64 q3) ∧ ((w.alloc (.cells #[.slice A n c, .slice B m d, .int .i64 q0, .int .i64 q1, .int .i64 q2, .int .i64 q3] 40)).alloc (.cells #[.int .i64 s1, .int .i64 s2, .int .i64 s3] 44)).cell? ⟨w.heap.size + 1, 0, none⟩ = some (.int .i64 s1) ∧ ((w.alloc (.cells #[.slice A n c, .slice B m d, .int .i64 q0, .int .i64 q1, .int .i64 q2, .int .i64 q3] 40)).alloc (.cells #[.int .i64 s1, .int .i64 s2, .int .i64 s3] 44)).cell? ⟨w.heap.size + 1, 1, none⟩ = some (.int .i64 s2) ∧ ((w.alloc (.cells #[.slice A n c, .slice B m d, .int .i64 q0, .int .i64 q1, .int .i64 q2, .int .i64 q3] 40)).alloc (.cells #[.int .i64 s1, .int .i64 s2, .int .i64 s3] 44)).cell? ⟨w.heap.size + 1, 2, none⟩ = some (.int .i64 s3) := by refine ⟨?_, ?_, ?_, ?_⟩ <;> first | assumption | simp [*, go_sem]
  have hS := fun (W : World) (h : Below ((w.alloc (.cells #[.slice A n c, .slice B m d, .int .i64 q0, .int .i64 q1, .int .i64 q2, .int .i64 q3] 40)).alloc (.cells #[.int .i64 s1, .int .i64 s2, .int .i64 s3] 44)).heap.size ((w.alloc (.cells #[.slice A n c, .slice B m d, .int .i64 q0, .int .i64 q1, .int .i64 q2, .int .i64 q3] 40)).alloc (.cells #[.int .i64 s1, .int .i64 s2, .int .i64 s3] 44)) W) => (⟨(h.cell (p := ⟨w.heap.size, 5, none⟩) (by first | assumption | (simp [go_sem]; done) | (simp [go_sem]; omega))).trans hR.1, (h.cell (p := ⟨w.heap.size + 1, 0, none⟩) (by first | assumption | (simp [go_sem]; done) | (simp [go_sem]; omega))).trans hR.2.1, (h.cell (p := ⟨w.heap.size + 1, 1, none⟩) (by first | assumption | (simp [go_sem]; done) | (simp [go_sem]; omega))).trans hR.2.2.1, (h.cell (p := ⟨w.heap.size + 1, 2, none⟩) (by first | assumption | (simp [go_sem]; done) | (simp [go_sem]; omega))).trans hR.2.2.2⟩ : W.cell? ⟨w.heap.size, 5, none⟩ = some (.int .i64 q3) ∧ W.cell? ⟨w.heap.size + 1, 0, none⟩ = some (.int .i64 s1) ∧ W.cell? ⟨w.heap.size + 1, 1, none⟩ = some (.int .i64 s2) ∧ W.cell? ⟨w.heap.size + 1, 2, none⟩ = some (.int .i64 s3))
  clear hR
  have e1 : IntKind.i64.wrap (fv + tv) = fv + tv := IntWalk.i64_in _ (by omega)
  have e2 : IntKind.i64.wrap (fv + tv + s3) = fv + tv + s3 := IntWalk.i64_in _ (by omega)
  go_enter Tryz.func102, Tryz.ntmps102
  go_wp2
  go_region_held3 (fun w' => w'.cell? ⟨w.heap.size, 5, none⟩ = some (.int .i64 q3) ∧ w'.cell? ⟨w.heap.size + 1, 0, none⟩ = some (.int .i64 s1) ∧ w'.cell? ⟨w.heap.size + 1, 1, none⟩ = some (.int .i64 s2) ∧ w'.cell? ⟨w.heap.size + 1, 2, none⟩ = some (.int .i64 s3)) (exact hS _ (by repeat (first | exact Below.refl _ _ | assumption | refine bExt ?_ _ | refine bAlloc ?_ _ | refine bDrewN ?_ _ | refine bDrew ?_ | refine bSet ?_ (by first | exact Nat.le_refl _ | omega | (simp; done) | (simp; omega)) _))) (first | (go_at_call 133; ((with_reducible refine (cf _).mono ?_); rintro e w' ⟨rfl, rfl⟩)) | (go_at_call 134; ((with_reducible refine (ct _).mono ?_); rintro e w' ⟨rfl, rfl⟩)))
  all_goals
    go_wp2
    go_ret
    exact ⟨ret_int (by rw [HV.out]), ext_ex (by repeat (first | exact Below.refl _ _ | assumption | refine bExt ?_ _ | refine bAlloc ?_ _ | refine bDrewN ?_ _ | refine bDrew ?_ | refine bSet ?_ (by first | exact Nat.le_refl _ | omega | (simp; done) | (simp; omega)) _))⟩
end Go.Proofs.YtfmidngndddfiaaGreatDoor
namespace Go.Proofs.YtfmidngndddfiaaGreatDoor
open Go.RowKit
set_option maxHeartbeats 1000000 in
theorem technicalScore_any (w : World) (A B : Option Addr) (n m c d : Nat) (els : List El) (q0 q1 q2 q3 : Int) (I : Option Addr) (n2 c2 : Nat) (its : List It) (GA KA : Option Addr) (gn gc kn kc : Nat) (gg kk : List (List Int)) (s1 s2 s3 : Int) (hM : PP w A n els I n2 c2 its GA gn gg) (hK : RdM w KA kn kk) (hP : PerfG els q0 q1 q2 q3 its gg kk s1 s2 s3) :
    Calls Tryz.prog 104 #[.agg #[.slice A n c, .slice B m d, .int .i64 q0, .int .i64 q1, .int .i64 q2, .int .i64 q3], .agg #[.slice I n2 c2, .slice GA gn gc, .slice KA kn kc, .int .i64 s1, .int .i64 s2, .int .i64 s3]] w (fun e w' => e = .returned (.int .i64 (techV els q0 q1 q2 its gg)) ∧ ∃ y, w' = ext w y) := by
  have hl := hM.2.1.1.len
  have hlen := hP.len
  rw [hl] at hlen
  have cs := fun W (h : Below w.heap.size w W) => itemScores_any W A B n m c d els q0 q1 q2 q3 I n2 c2 its GA KA gn gc kn kc gg kk s1 s2 s3 (hM.below h) hP
  have HB : Hid (∀ x ∈ mapN (scAt els q0 q1 q2 its gg) n2, -100000 ≤ x ∧ x ≤ 100000) := mapN_mem fun j hj => by
    have := scAt_bd (its := its) (k := j) hP.code (hP.itg j (by omega)) (hP.grs j (by rw [hP.glen]; omega))
    omega
  have HT : Hid (sumTo (mapN (scAt els q0 q1 q2 its gg) n2) n2 = techV els q0 q1 q2 its gg) := by unfold Hid techV; rw [hl]; exact sumN_to _ _
  have hln := mapN_len (scAt els q0 q1 q2 its gg) n2
  clear hM hK hP hl
  generalize techV els q0 q1 q2 its gg = tv at *
  generalize mapN (scAt els q0 q1 q2 its gg) n2 = l at *
  go_enter Tryz.func104, Tryz.ntmps104
  go_wp2_with (first | (go_at_call 135; ((with_reducible refine (cs _ (by repeat (first | exact Below.refl _ _ | assumption | refine bExt ?_ _ | refine bAlloc ?_ _ | refine bDrewN ?_ _ | refine bDrew ?_ | refine bSet ?_ (by first | exact Nat.le_refl _ | omega | (simp; done) | (simp; omega)) _))).mono ?_); rintro e w' ⟨A1, n1, c1, x1, rfl, rfl, o1⟩; (obtain rfl : n1 = n2 := o1.len.symm.trans hln))) | (go_at_call 106; ((with_reducible refine (sumInts_any _ _ _ _ _ o1.rd (by omega) HB.out).mono ?_); rintro e w' ⟨rfl, rfl⟩)))
  go_ret
  exact ⟨ret_int (by rw [HT.out]), ext_ex (by repeat (first | exact Below.refl _ _ | assumption | refine bExt ?_ _ | refine bAlloc ?_ _ | refine bDrewN ?_ _ | refine bDrew ?_ | refine bSet ?_ (by first | exact Nat.le_refl _ | omega | (simp; done) | (simp; omega)) _))⟩
set_option maxHeartbeats 1000000 in
theorem sgTechnical_any (w : World) (A B : Option Addr) (n m c d : Nat) (els : List El) (q0 q1 q2 q3 : Int) (I : Option Addr) (n2 c2 : Nat) (its : List It) (GA KA : Option Addr) (gn gc kn kc : Nat) (gg kk : List (List Int)) (s1 s2 s3 : Int) (hM : PP w A n els I n2 c2 its GA gn gg) (hK : RdM w KA kn kk) (hP : PerfG els q0 q1 q2 q3 its gg kk s1 s2 s3) :
    Calls Tryz.prog 100 #[.agg #[.slice A n c, .slice B m d, .int .i64 q0, .int .i64 q1, .int .i64 q2, .int .i64 q3], .agg #[.slice I n2 c2, .slice GA gn gc, .slice KA kn kc, .int .i64 s1, .int .i64 s2, .int .i64 s3]] w (fun e w' => e = .returned (.int .i64 (techV els q0 q1 q2 its gg)) ∧ ∃ y, w' = ext w y) := by
  have hl := hM.2.1.1.len
  have hlen := hP.len
  rw [hl] at hlen
  have cs := fun W (h : Below w.heap.size w W) => elScores_any W A B n m c d els q0 q1 q2 q3 I n2 c2 its GA KA gn gc kn kc gg kk s1 s2 s3 (hM.below h) hP
  have HB : Hid (∀ x ∈ mapN (scAt els q0 q1 q2 its gg) n2, -100000 ≤ x ∧ x ≤ 100000) := mapN_mem fun j hj => by
    have := scAt_bd (its := its) (k := j) hP.code (hP.itg j (by omega)) (hP.grs j (by rw [hP.glen]; omega))
    omega
  have HT : Hid (sumTo (mapN (scAt els q0 q1 q2 its gg) n2) n2 = techV els q0 q1 q2 its gg) := by unfold Hid techV; rw [hl]; exact sumN_to _ _
  have hln := mapN_len (scAt els q0 q1 q2 its gg) n2
  clear hM hK hP hl
  generalize techV els q0 q1 q2 its gg = tv at *
  generalize mapN (scAt els q0 q1 q2 its gg) n2 = l at *
  go_enter Tryz.func100, Tryz.ntmps100
  go_wp2_with (first | (go_at_call 131; ((with_reducible refine (cs _ (by repeat (first | exact Below.refl _ _ | assumption | refine bExt ?_ _ | refine bAlloc ?_ _ | refine bDrewN ?_ _ | refine bDrew ?_ | refine bSet ?_ (by first | exact Nat.le_refl _ | omega | (simp; done) | (simp; omega)) _))).mono ?_); rintro e w' ⟨A1, n1, c1, x1, rfl, rfl, o1⟩; (obtain rfl : n1 = n2 := o1.len.symm.trans hln))) | (go_at_call 130; ((with_reducible refine (poSum_any _ _ _ _ _ o1.rd (by omega) HB.out).mono ?_); rintro e w' ⟨rfl, rfl⟩)))
  go_ret
  exact ⟨ret_int (by rw [HT.out]), ext_ex (by repeat (first | exact Below.refl _ _ | assumption | refine bExt ?_ _ | refine bAlloc ?_ _ | refine bDrewN ?_ _ | refine bDrew ?_ | refine bSet ?_ (by first | exact Nat.le_refl _ | omega | (simp; done) | (simp; omega)) _))⟩
set_option maxHeartbeats 4000000 in
theorem partsOf_any (w : World) (A B : Option Addr) (n m c d : Nat) (els : List El) (q0 q1 q2 q3 : Int) (I : Option Addr) (n2 c2 : Nat) (its : List It) (GA KA : Option Addr) (gn gc kn kc : Nat) (gg kk : List (List Int)) (s1 s2 s3 : Int) (hM : PP w A n els I n2 c2 its GA gn gg) (hK : RdM w KA kn kk) (hP : PerfG els q0 q1 q2 q3 its gg kk s1 s2 s3) (factor : Int) (hfa : 10 ≤ factor ∧ factor ≤ 400) :
    Calls Tryz.prog 72 #[.agg #[.slice A n c, .slice B m d, .int .i64 q0, .int .i64 q1, .int .i64 q2, .int .i64 q3], .agg #[.slice I n2 c2, .slice GA gn gc, .slice KA kn kc, .int .i64 s1, .int .i64 s2, .int .i64 s3], .int .i64 factor] w (RetI w (partsP els q0 q1 q2 q3 its gg kk s1 s2 s3 factor)) := by
  have hsl := slip_of hP.slip
  have ct := fun W (h : Below w.heap.size w W) => technicalScore_any W A B n m c d els q0 q1 q2 q3 I n2 c2 its GA KA gn gc kn kc gg kk s1 s2 s3 (hM.below h) (hK.below h) hP
  have cf := fun W (h : Below w.heap.size w W) => factoredSum_any W GA KA gn gc kn kc gg kk (hK.below h) hP.mks s1 hsl.1.1 factor hfa
  have b1 := techV_bd hP.code hP.itg hP.grs hP.glen hP.len
  have b2 := facV_bd (falls := s1) hP.mks hfa
  have b3 := dedV_bd hP.fall hP.slip
  have cs := fun W => slipPoints_any W A B n m c d q0 q1 q2 q3 s1 s2 s3 hP.fall hP.slip
  have HB : Hid (∀ x ∈ [fallV q3 s1, timeV s2, s3], -100000 ≤ x ∧ x ≤ 100000) := by
    have h1 := fallV_bd hP.fall hsl.1
    have h2 := timeV_bd hsl.2.1
    intro x hx
    simp at hx
    omega
  have HT : Hid (sumTo [fallV q3 s1, timeV s2, s3] 3 = dedV q3 s1 s2 s3) := by unfold Hid dedV; simp [sumTo, Int.add_assoc]
  have hln : [fallV q3 s1, timeV s2, s3].length = 3 := rfl
  generalize [fallV q3 s1, timeV s2, s3] = l at *
  have cu := fun W A1 c1 (h : RdI W A1 3 l) => sumInts_any W A1 3 c1 l h (by omega) HB.out
  simp only [HT.out] at cu
  have HV : Hid (partsP els q0 q1 q2 q3 its gg kk s1 s2 s3 factor = [techV els q0 q1 q2 its gg, facV kk factor s1, dedV q3 s1 s2 s3, max (techV els q0 q1 q2 its gg + facV kk factor s1 - dedV q3 s1 s2 s3) 0]) := rfl
  clear hM hK hP hsl hfa
  generalize techV els q0 q1 q2 its gg = tv at *
  generalize facV kk factor s1 = fv at *
  generalize dedV q3 s1 s2 s3 = dv at *
  have e1 : IntKind.i64.wrap (tv + fv) = tv + fv := IntWalk.i64_in _ (by omega)
  have e2 : IntKind.i64.wrap (tv + fv - dv) = tv + fv - dv := IntWalk.i64_in _ (by omega)

  have hR : ((w.alloc (.cells #[.slice A n c, .slice B m d, .int .i64 q0, .int .i64 q1, .int .i64 q2, .int .i64 q3] 40)).alloc (.cells #[.slice I n2 c2, .slice GA gn gc, .slice KA kn kc, .int .i64 s1, .int .i64 s2, .int .i64 s3] 46)).cell? ⟨w.heap.size, 0, none⟩ = some (.slice A n c) ∧ ((w.alloc (.cells #[.slice A n c, .slice B m d, .int .i64 q0, .int .i64 q1, .int .i64 q2, .int .i64 q3] 40)).alloc (.cells #[.slice I n2 c2, .slice GA gn gc, .slice KA kn kc, .int .i64 s1, .int .i64 s2, .int .i64 s3] 46)).cell? ⟨w.heap.size, 1, none⟩ = some (.slice B m d) ∧ ((w.alloc (.cells #[.slice A n c, .slice B m d, .int .i64 q0, .int .i64 q1, .int .i64 q2, .int .i64 q3] 40)).alloc (.cells #[.slice I n2 c2, .slice GA gn gc, .slice KA kn kc, .int .i64 s1, .int .i64 s2, .int .i64 s3] 46)).cell? ⟨w.heap.size, 2, none⟩ = some (.int .i64 q0) ∧ ((w.alloc (.cells #[.slice A n c, .slice B m d, .int .i64 q0, .int .i64 q1, .int .i64 q2, .int .i64 q3] 40)).alloc (.cells #[.slice I n2 c2, .slice GA gn gc, .slice KA kn kc, .int .i64 s1, .int .i64 s2, .int .i64 s3] 46)).cell? ⟨w.heap.size, 3, none⟩ = some (.int .i64 q1) ∧ ((w.alloc (.cells #[.slice A n c, .slice B m d, .int .i64 q0, .int .i64 q1, .int .i64 q2, .int .i64 q3] 40)).alloc (.cells #[.slice I n2 c2, .slice GA gn gc, .slice KA kn kc, .int .i64 s1, .int .i64 s2, .int .i64 s3] 46)).cell? ⟨w.heap.size, 4, none⟩ = some (.int .i64 q2) ∧ ((w.alloc (.cells #[.slice A n c, .slice B m d, .int .i64 q0, .int .i64 q1, .int .i64 q2, .int .i64 q3] 40)).alloc (.cells #[.slice I n2 c2, .slice GA gn gc, .slice KA kn kc, .int .i64 s1, .int .i64 s2, .int .i64 s3] 46)).cell? ⟨w.heap.size, 5, none⟩ = some (.int .i64 q3) ∧ ((w.alloc (.cells #[.slice A n c, .slice B m d, .int .i64 q0, .int .i64 q1, .int .i64 q2, .int .i64 q3] 40)).alloc (.cells #[.slice I n2 c2, .slice GA gn gc, .slice KA kn kc, .int .i64 s1, .int .i64 s2, .int .i64 s3] 46)).cell? ⟨w.heap.size + 1, 0, none⟩ = some (.slice I n2 c2) ∧ ((w.alloc (.cells #[.slice A n c, .slice B m d, .int .i64 q0, .int .i64 q1, .int .i64 q2, .int .i64 q3] 40)).alloc (.cells #[.slice I n2 c2, .slice GA gn gc, .slice KA kn kc, .int .i64 s1, .int .i64 s2, .int .i64 s3] 46)).cell? ⟨w.heap.size + 1, 1, none⟩ = some (.slice GA gn gc) ∧ ((w.alloc (.cells #[.slice A n c, .slice B m d, .int .i64 q0, .int .i64 q1, .int .i64 q2, .int .i64 q3] 40)).alloc (.cells #[.slice I n2 c2, .slice GA gn gc, .slice KA kn kc, .int .i64 s1, .int .i64 s2, .int .i64 s3] 46)).cell? ⟨w.heap.size + 1, 2, none⟩ = some (.slice KA kn kc) ∧ ((w.alloc (.cells #[.slice A n c, .slice B m d, .int .i64 q0, .int .i64 q1, .int .i64 q2, .int .i64 q3] 40)).alloc (.cells #[.slice I n2 c2, .slice GA gn gc, .slice KA kn kc, .int .i64 s1, .int .i64 s2, .int .i64 s3] 46)).cell? ⟨w.heap.size + 1, 3, none⟩ = some (.int .i64 s1) ∧ ((w.alloc (.cells #[.slice A n c, .slice B m d, .int .i64 q0, .int .i64 q1, .int .i64 q2, .int .i64 q3] 40)).alloc (.cells #[.slice I n2 c2, .slice GA gn gc, .slice KA kn kc, .int .i64 s1, .int .i64 s2, .int .i64 s3] 46)).cell? ⟨w.heap.size + 1, 4, none⟩ = some (.int .i64 s2) ∧ ((w.alloc (.cells #[.slice A n c, .slice B m d, .int .i64 q0, .int .i64 q1, .int .i64 q2, .int .i64 q3] 40)).alloc (.cells #[.slice I n2 c2, .slice GA gn gc, .slice KA kn kc, .int .i64 s1, .int .i64 s2, .int .i64 s3] 46)).cell? ⟨w.heap.size + 1, 5, none⟩ = some (.int .i64 s3) := by refine ⟨?_, ?_, ?_, ?_, ?_, ?_, ?_, ?_, ?_, ?_, ?_, ?_⟩ <;> first | assumption | simp [*, go_sem]
  have hS := fun (W : World) (h : Below ((w.alloc (.cells #[.slice A n c, .slice B m d, .int .i64 q0, .int .i64 q1, .int .i64 q2, .int .i64 q3] 40)).alloc (.cells #[.slice I n2 c2, .slice GA gn gc, .slice KA kn kc, .int .i64 s1, .int .i64 s2, .int .i64 s3] 46)).heap.size ((w.alloc (.cells #[.slice A n c, .slice B m d, .int .i64 q0, .int .i64 q1, .int .i64 q2, .int .i64 q3] 40)).alloc (.cells #[.slice I n2 c2, .slice GA gn gc, .slice KA kn kc, .int .i64 s1, .int .i64 s2, .int .i64 s3] 46)) W) => (⟨(h.cell (p := ⟨w.heap.size, 0, none⟩) (by first | assumption | (simp [go_sem]; done) | (simp [go_sem]; omega))).trans hR.1, (h.cell (p := ⟨w.heap.size, 1, none⟩) (by first | assumption | (simp [go_sem]; done) | (simp [go_sem]; omega))).trans hR.2.1, (h.cell (p := ⟨w.heap.size, 2, none⟩) (by first | assumption | (simp [go_sem]; done) | (simp [go_sem]; omega))).trans hR.2.2.1, (h.cell (p := ⟨w.heap.size, 3, none⟩) (by first | assumption | (simp [go_sem]; done) | (simp [go_sem]; omega))).trans hR.2.2.2.1, (h.cell (p := ⟨w.heap.size, 4, none⟩) (by first | assumption | (simp [go_sem]; done) | (simp [go_sem]; omega))).trans hR.2.2.2.2.1, (h.cell (p := ⟨w.heap.size, 5, none⟩) (by first | assumption | (simp [go_sem]; done) | (simp [go_sem]; omega))).trans hR.2.2.2.2.2.1, (h.cell (p := ⟨w.heap.size + 1, 0, none⟩) (by first | assumption | (simp [go_sem]; done) | (simp [go_sem]; omega))).trans hR.2.2.2.2.2.2.1, (h.cell (p := ⟨w.heap.size + 1, 1, none⟩) (by first | assumption | (simp [go_sem]; done) | (simp [go_sem]; omega))).trans hR.2.2.2.2.2.2.2.1, (h.cell (p := ⟨w.heap.size + 1, 2, none⟩) (by first | assumption | (simp [go_sem]; done) | (simp [go_sem]; omega))).trans hR.2.2.2.2.2.2.2.2.1, (h.cell (p := ⟨w.heap.size + 1, 3, none⟩) (by first | assumption | (simp [go_sem]; done) | (simp [go_sem]; omega))).trans hR.2.2.2.2.2.2.2.2.2.1, (h.cell (p := ⟨w.heap.size + 1, 4, none⟩) (by first | assumption | (simp [go_sem]; done) | (simp [go_sem]; omega))).trans hR.2.2.2.2.2.2.2.2.2.2.1, (h.cell (p := ⟨w.heap.size + 1, 5, none⟩) (by first | assumption | (simp [go_sem]; done) | (simp [go_sem]; omega))).trans hR.2.2.2.2.2.2.2.2.2.2.2⟩ : W.cell? ⟨w.heap.size, 0, none⟩ = some (.slice A n c) ∧ W.cell? ⟨w.heap.size, 1, none⟩ = some (.slice B m d) ∧ W.cell? ⟨w.heap.size, 2, none⟩ = some (.int .i64 q0) ∧ W.cell? ⟨w.heap.size, 3, none⟩ = some (.int .i64 q1) ∧ W.cell? ⟨w.heap.size, 4, none⟩ = some (.int .i64 q2) ∧ W.cell? ⟨w.heap.size, 5, none⟩ = some (.int .i64 q3) ∧ W.cell? ⟨w.heap.size + 1, 0, none⟩ = some (.slice I n2 c2) ∧ W.cell? ⟨w.heap.size + 1, 1, none⟩ = some (.slice GA gn gc) ∧ W.cell? ⟨w.heap.size + 1, 2, none⟩ = some (.slice KA kn kc) ∧ W.cell? ⟨w.heap.size + 1, 3, none⟩ = some (.int .i64 s1) ∧ W.cell? ⟨w.heap.size + 1, 4, none⟩ = some (.int .i64 s2) ∧ W.cell? ⟨w.heap.size + 1, 5, none⟩ = some (.int .i64 s3))
  clear hR
  go_enter Tryz.func72, Tryz.ntmps72
  go_wp2
  go_region_held3 (fun w' => w'.cell? ⟨w.heap.size, 0, none⟩ = some (.slice A n c) ∧ w'.cell? ⟨w.heap.size, 1, none⟩ = some (.slice B m d) ∧ w'.cell? ⟨w.heap.size, 2, none⟩ = some (.int .i64 q0) ∧ w'.cell? ⟨w.heap.size, 3, none⟩ = some (.int .i64 q1) ∧ w'.cell? ⟨w.heap.size, 4, none⟩ = some (.int .i64 q2) ∧ w'.cell? ⟨w.heap.size, 5, none⟩ = some (.int .i64 q3) ∧ w'.cell? ⟨w.heap.size + 1, 0, none⟩ = some (.slice I n2 c2) ∧ w'.cell? ⟨w.heap.size + 1, 1, none⟩ = some (.slice GA gn gc) ∧ w'.cell? ⟨w.heap.size + 1, 2, none⟩ = some (.slice KA kn kc) ∧ w'.cell? ⟨w.heap.size + 1, 3, none⟩ = some (.int .i64 s1) ∧ w'.cell? ⟨w.heap.size + 1, 4, none⟩ = some (.int .i64 s2) ∧ w'.cell? ⟨w.heap.size + 1, 5, none⟩ = some (.int .i64 s3)) (exact hS _ (by repeat (first | exact Below.refl _ _ | assumption | refine bExt ?_ _ | refine bAlloc ?_ _ | refine bDrewN ?_ _ | refine bDrew ?_ | refine bSet ?_ (by first | exact Nat.le_refl _ | omega | (simp; done) | (simp; omega)) _))) (first | (go_at_call 104; ((with_reducible refine (ct _ (by repeat (first | exact Below.refl _ _ | assumption | refine bExt ?_ _ | refine bAlloc ?_ _ | refine bDrewN ?_ _ | refine bDrew ?_ | refine bSet ?_ (by first | exact Nat.le_refl _ | omega | (simp; done) | (simp; omega)) _))).mono ?_); rintro e w' ⟨rfl, y1, rfl⟩)) | (go_at_call 105; ((with_reducible refine (cf _ (by repeat (first | exact Below.refl _ _ | assumption | refine bExt ?_ _ | refine bAlloc ?_ _ | refine bDrewN ?_ _ | refine bDrew ?_ | refine bSet ?_ (by first | exact Nat.le_refl _ | omega | (simp; done) | (simp; omega)) _))).mono ?_); rintro e w' ⟨rfl, y2, rfl⟩)) | (go_at_call 107; ((with_reducible refine (cs _).mono ?_); rintro e w' ⟨A1, n1, c1, x1, rfl, rfl, o1⟩; (obtain rfl : n1 = 3 := o1.len.symm.trans hln))) | (go_at_call 106; ((with_reducible refine (cu _ _ _ (o1.rd.below (by repeat (first | exact Below.refl _ _ | assumption | refine bExt ?_ _ | refine bAlloc ?_ _ | refine bDrewN ?_ _ | refine bDrew ?_ | refine bSet ?_ (by first | exact Nat.le_refl _ | omega | (simp; done) | (simp; omega)) _)))).mono ?_); rintro e w' ⟨rfl, rfl⟩)))
  all_goals
    go_wp2_with (fail)
    go_ret
    rw [HV.out]
    exact RetI.alloc_ (by repeat (first | exact Below.refl _ _ | assumption | refine bExt ?_ _ | refine bAlloc ?_ _ | refine bDrewN ?_ _ | refine bDrew ?_ | refine bSet ?_ (by first | exact Nat.le_refl _ | omega | (simp; done) | (simp; omega)) _)) (by simp [go_sem]) rfl rfl (by simp) rfl
set_option maxHeartbeats 4000000 in
theorem sgParts_any (w : World) (A B : Option Addr) (n m c d : Nat) (els : List El) (q0 q1 q2 q3 : Int) (I : Option Addr) (n2 c2 : Nat) (its : List It) (GA KA : Option Addr) (gn gc kn kc : Nat) (gg kk : List (List Int)) (s1 s2 s3 : Int) (hM : PP w A n els I n2 c2 its GA gn gg) (hK : RdM w KA kn kk) (hP : PerfG els q0 q1 q2 q3 its gg kk s1 s2 s3) (factor : Int) (hfa : 10 ≤ factor ∧ factor ≤ 400) :
    Calls Tryz.prog 70 #[.agg #[.slice A n c, .slice B m d, .int .i64 q0, .int .i64 q1, .int .i64 q2, .int .i64 q3], .agg #[.slice I n2 c2, .slice GA gn gc, .slice KA kn kc, .int .i64 s1, .int .i64 s2, .int .i64 s3], .int .i64 factor] w (RetI w (partsP els q0 q1 q2 q3 its gg kk s1 s2 s3 factor)) := by
  have hsl := slip_of hP.slip
  have ct := fun W (h : Below w.heap.size w W) => sgTechnical_any W A B n m c d els q0 q1 q2 q3 I n2 c2 its GA KA gn gc kn kc gg kk s1 s2 s3 (hM.below h) (hK.below h) hP
  have cf := fun W (h : Below w.heap.size w W) => cpFactored_any W GA KA gn gc kn kc gg kk (hK.below h) hP.mks s1 hsl.1.1 factor hfa
  have b1 := techV_bd hP.code hP.itg hP.grs hP.glen hP.len
  have b2 := facV_bd (falls := s1) hP.mks hfa
  have b3 := dedV_bd hP.fall hP.slip
  have cs := fun W => dcSum_any W A B n m c d q0 q1 q2 q3 s1 s2 s3 hP.fall hP.slip
  have HV : Hid (partsP els q0 q1 q2 q3 its gg kk s1 s2 s3 factor = [techV els q0 q1 q2 its gg, facV kk factor s1, dedV q3 s1 s2 s3, max (techV els q0 q1 q2 its gg + facV kk factor s1 - dedV q3 s1 s2 s3) 0]) := rfl
  clear hM hK hP hsl hfa
  generalize techV els q0 q1 q2 its gg = tv at *
  generalize facV kk factor s1 = fv at *
  generalize dedV q3 s1 s2 s3 = dv at *
  have e1 : IntKind.i64.wrap (tv + fv) = tv + fv := IntWalk.i64_in _ (by omega)
  have e2 : IntKind.i64.wrap (tv + fv - dv) = tv + fv - dv := IntWalk.i64_in _ (by omega)
  have cu := fun W => l1MostU_any 0 (tv + fv - dv) W
  rw [show max 0 (tv + fv - dv) = max (tv + fv - dv) 0 by omega] at cu
  have hR : ((w.alloc (.cells #[.slice A n c, .slice B m d, .int .i64 q0, .int .i64 q1, .int .i64 q2, .int .i64 q3] 40)).alloc (.cells #[.slice I n2 c2, .slice GA gn gc, .slice KA kn kc, .int .i64 s1, .int .i64 s2, .int .i64 s3] 46)).cell? ⟨w.heap.size, 0, none⟩ = some (.slice A n c) ∧ ((w.alloc (.cells #[.slice A n c, .slice B m d, .int .i64 q0, .int .i64 q1, .int .i64 q2, .int .i64 q3] 40)).alloc (.cells #[.slice I n2 c2, .slice GA gn gc, .slice KA kn kc, .int .i64 s1, .int .i64 s2, .int .i64 s3] 46)).cell? ⟨w.heap.size, 1, none⟩ = some (.slice B m d) ∧ ((w.alloc (.cells #[.slice A n c, .slice B m d, .int .i64 q0, .int .i64 q1, .int .i64 q2, .int .i64 q3] 40)).alloc (.cells #[.slice I n2 c2, .slice GA gn gc, .slice KA kn kc, .int .i64 s1, .int .i64 s2, .int .i64 s3] 46)).cell? ⟨w.heap.size, 2, none⟩ = some (.int .i64 q0) ∧ ((w.alloc (.cells #[.slice A n c, .slice B m d, .int .i64 q0, .int .i64 q1, .int .i64 q2, .int .i64 q3] 40)).alloc (.cells #[.slice I n2 c2, .slice GA gn gc, .slice KA kn kc, .int .i64 s1, .int .i64 s2, .int .i64 s3] 46)).cell? ⟨w.heap.size, 3, none⟩ = some (.int .i64 q1) ∧ ((w.alloc (.cells #[.slice A n c, .slice B m d, .int .i64 q0, .int .i64 q1, .int .i64 q2, .int .i64 q3] 40)).alloc (.cells #[.slice I n2 c2, .slice GA gn gc, .slice KA kn kc, .int .i64 s1, .int .i64 s2, .int .i64 s3] 46)).cell? ⟨w.heap.size, 4, none⟩ = some (.int .i64 q2) ∧ ((w.alloc (.cells #[.slice A n c, .slice B m d, .int .i64 q0, .int .i64 q1, .int .i64 q2, .int .i64 q3] 40)).alloc (.cells #[.slice I n2 c2, .slice GA gn gc, .slice KA kn kc, .int .i64 s1, .int .i64 s2, .int .i64 s3] 46)).cell? ⟨w.heap.size, 5, none⟩ = some (.int .i64 q3) ∧ ((w.alloc (.cells #[.slice A n c, .slice B m d, .int .i64 q0, .int .i64 q1, .int .i64 q2, .int .i64 q3] 40)).alloc (.cells #[.slice I n2 c2, .slice GA gn gc, .slice KA kn kc, .int .i64 s1, .int .i64 s2, .int .i64 s3] 46)).cell? ⟨w.heap.size + 1, 0, none⟩ = some (.slice I n2 c2) ∧ ((w.alloc (.cells #[.slice A n c, .slice B m d, .int .i64 q0, .int .i64 q1, .int .i64 q2, .int .i64 q3] 40)).alloc (.cells #[.slice I n2 c2, .slice GA gn gc, .slice KA kn kc, .int .i64 s1, .int .i64 s2, .int .i64 s3] 46)).cell? ⟨w.heap.size + 1, 1, none⟩ = some (.slice GA gn gc) ∧ ((w.alloc (.cells #[.slice A n c, .slice B m d, .int .i64 q0, .int .i64 q1, .int .i64 q2, .int .i64 q3] 40)).alloc (.cells #[.slice I n2 c2, .slice GA gn gc, .slice KA kn kc, .int .i64 s1, .int .i64 s2, .int .i64 s3] 46)).cell? ⟨w.heap.size + 1, 2, none⟩ = some (.slice KA kn kc) ∧ ((w.alloc (.cells #[.slice A n c, .slice B m d, .int .i64 q0, .int .i64 q1, .int .i64 q2, .int .i64 q3] 40)).alloc (.cells #[.slice I n2 c2, .slice GA gn gc, .slice KA kn kc, .int .i64 s1, .int .i64 s2, .int .i64 s3] 46)).cell? ⟨w.heap.size + 1, 3, none⟩ = some (.int .i64 s1) ∧ ((w.alloc (.cells #[.slice A n c, .slice B m d, .int .i64 q0, .int .i64 q1, .int .i64 q2, .int .i64 q3] 40)).alloc (.cells #[.slice I n2 c2, .slice GA gn gc, .slice KA kn kc, .int .i64 s1, .int .i64 s2, .int .i64 s3] 46)).cell? ⟨w.heap.size + 1, 4, none⟩ = some (.int .i64 s2) ∧ ((w.alloc (.cells #[.slice A n c, .slice B m d, .int .i64 q0, .int .i64 q1, .int .i64 q2, .int .i64 q3] 40)).alloc (.cells #[.slice I n2 c2, .slice GA gn gc, .slice KA kn kc, .int .i64 s1, .int .i64 s2, .int .i64 s3] 46)).cell? ⟨w.heap.size + 1, 5, none⟩ = some (.int .i64 s3) := by refine ⟨?_, ?_, ?_, ?_, ?_, ?_, ?_, ?_, ?_, ?_, ?_, ?_⟩ <;> first | assumption | simp [*, go_sem]
  have hS := fun (W : World) (h : Below ((w.alloc (.cells #[.slice A n c, .slice B m d, .int .i64 q0, .int .i64 q1, .int .i64 q2, .int .i64 q3] 40)).alloc (.cells #[.slice I n2 c2, .slice GA gn gc, .slice KA kn kc, .int .i64 s1, .int .i64 s2, .int .i64 s3] 46)).heap.size ((w.alloc (.cells #[.slice A n c, .slice B m d, .int .i64 q0, .int .i64 q1, .int .i64 q2, .int .i64 q3] 40)).alloc (.cells #[.slice I n2 c2, .slice GA gn gc, .slice KA kn kc, .int .i64 s1, .int .i64 s2, .int .i64 s3] 46)) W) => (⟨(h.cell (p := ⟨w.heap.size, 0, none⟩) (by first | assumption | (simp [go_sem]; done) | (simp [go_sem]; omega))).trans hR.1, (h.cell (p := ⟨w.heap.size, 1, none⟩) (by first | assumption | (simp [go_sem]; done) | (simp [go_sem]; omega))).trans hR.2.1, (h.cell (p := ⟨w.heap.size, 2, none⟩) (by first | assumption | (simp [go_sem]; done) | (simp [go_sem]; omega))).trans hR.2.2.1, (h.cell (p := ⟨w.heap.size, 3, none⟩) (by first | assumption | (simp [go_sem]; done) | (simp [go_sem]; omega))).trans hR.2.2.2.1, (h.cell (p := ⟨w.heap.size, 4, none⟩) (by first | assumption | (simp [go_sem]; done) | (simp [go_sem]; omega))).trans hR.2.2.2.2.1, (h.cell (p := ⟨w.heap.size, 5, none⟩) (by first | assumption | (simp [go_sem]; done) | (simp [go_sem]; omega))).trans hR.2.2.2.2.2.1, (h.cell (p := ⟨w.heap.size + 1, 0, none⟩) (by first | assumption | (simp [go_sem]; done) | (simp [go_sem]; omega))).trans hR.2.2.2.2.2.2.1, (h.cell (p := ⟨w.heap.size + 1, 1, none⟩) (by first | assumption | (simp [go_sem]; done) | (simp [go_sem]; omega))).trans hR.2.2.2.2.2.2.2.1, (h.cell (p := ⟨w.heap.size + 1, 2, none⟩) (by first | assumption | (simp [go_sem]; done) | (simp [go_sem]; omega))).trans hR.2.2.2.2.2.2.2.2.1, (h.cell (p := ⟨w.heap.size + 1, 3, none⟩) (by first | assumption | (simp [go_sem]; done) | (simp [go_sem]; omega))).trans hR.2.2.2.2.2.2.2.2.2.1, (h.cell (p := ⟨w.heap.size + 1, 4, none⟩) (by first | assumption | (simp [go_sem]; done) | (simp [go_sem]; omega))).trans hR.2.2.2.2.2.2.2.2.2.2.1, (h.cell (p := ⟨w.heap.size + 1, 5, none⟩) (by first | assumption | (simp [go_sem]; done) | (simp [go_sem]; omega))).trans hR.2.2.2.2.2.2.2.2.2.2.2⟩ : W.cell? ⟨w.heap.size, 0, none⟩ = some (.slice A n c) ∧ W.cell? ⟨w.heap.size, 1, none⟩ = some (.slice B m d) ∧ W.cell? ⟨w.heap.size, 2, none⟩ = some (.int .i64 q0) ∧ W.cell? ⟨w.heap.size, 3, none⟩ = some (.int .i64 q1) ∧ W.cell? ⟨w.heap.size, 4, none⟩ = some (.int .i64 q2) ∧ W.cell? ⟨w.heap.size, 5, none⟩ = some (.int .i64 q3) ∧ W.cell? ⟨w.heap.size + 1, 0, none⟩ = some (.slice I n2 c2) ∧ W.cell? ⟨w.heap.size + 1, 1, none⟩ = some (.slice GA gn gc) ∧ W.cell? ⟨w.heap.size + 1, 2, none⟩ = some (.slice KA kn kc) ∧ W.cell? ⟨w.heap.size + 1, 3, none⟩ = some (.int .i64 s1) ∧ W.cell? ⟨w.heap.size + 1, 4, none⟩ = some (.int .i64 s2) ∧ W.cell? ⟨w.heap.size + 1, 5, none⟩ = some (.int .i64 s3))
  clear hR
  go_enter Tryz.func70, Tryz.ntmps70
  go_wp2
  go_region_held3 (fun w' => w'.cell? ⟨w.heap.size, 0, none⟩ = some (.slice A n c) ∧ w'.cell? ⟨w.heap.size, 1, none⟩ = some (.slice B m d) ∧ w'.cell? ⟨w.heap.size, 2, none⟩ = some (.int .i64 q0) ∧ w'.cell? ⟨w.heap.size, 3, none⟩ = some (.int .i64 q1) ∧ w'.cell? ⟨w.heap.size, 4, none⟩ = some (.int .i64 q2) ∧ w'.cell? ⟨w.heap.size, 5, none⟩ = some (.int .i64 q3) ∧ w'.cell? ⟨w.heap.size + 1, 0, none⟩ = some (.slice I n2 c2) ∧ w'.cell? ⟨w.heap.size + 1, 1, none⟩ = some (.slice GA gn gc) ∧ w'.cell? ⟨w.heap.size + 1, 2, none⟩ = some (.slice KA kn kc) ∧ w'.cell? ⟨w.heap.size + 1, 3, none⟩ = some (.int .i64 s1) ∧ w'.cell? ⟨w.heap.size + 1, 4, none⟩ = some (.int .i64 s2) ∧ w'.cell? ⟨w.heap.size + 1, 5, none⟩ = some (.int .i64 s3)) (exact hS _ (by repeat (first | exact Below.refl _ _ | assumption | refine bExt ?_ _ | refine bAlloc ?_ _ | refine bDrewN ?_ _ | refine bDrew ?_ | refine bSet ?_ (by first | exact Nat.le_refl _ | omega | (simp; done) | (simp; omega)) _))) (first | (go_at_call 100; ((with_reducible refine (ct _ (by repeat (first | exact Below.refl _ _ | assumption | refine bExt ?_ _ | refine bAlloc ?_ _ | refine bDrewN ?_ _ | refine bDrew ?_ | refine bSet ?_ (by first | exact Nat.le_refl _ | omega | (simp; done) | (simp; omega)) _))).mono ?_); rintro e w' ⟨rfl, y1, rfl⟩)) | (go_at_call 101; ((with_reducible refine (cf _ (by repeat (first | exact Below.refl _ _ | assumption | refine bExt ?_ _ | refine bAlloc ?_ _ | refine bDrewN ?_ _ | refine bDrew ?_ | refine bSet ?_ (by first | exact Nat.le_refl _ | omega | (simp; done) | (simp; omega)) _))).mono ?_); rintro e w' ⟨rfl, y2, rfl⟩)) | (go_at_call 102; ((with_reducible refine (cs _).mono ?_); rintro e w' ⟨rfl, y3, rfl⟩)))
  all_goals
    go_wp2_with ((go_at_call 103; ((with_reducible refine (cu _).mono ?_); rintro e w' ⟨rfl, rfl⟩)))
    go_ret
    rw [HV.out]
    exact RetI.alloc_ (by repeat (first | exact Below.refl _ _ | assumption | refine bExt ?_ _ | refine bAlloc ?_ _ | refine bDrewN ?_ _ | refine bDrew ?_ | refine bSet ?_ (by first | exact Nat.le_refl _ | omega | (simp; done) | (simp; omega)) _)) (by simp [go_sem]) rfl rfl (by simp) rfl
/-- The line of totals. -/
def totP : ByteArray := ⟨#[116, 111, 116, 97, 108, 115]⟩
def totTo (l : List Int) : Nat → ByteArray
  | 0 => totP
  | k + 1 => totTo l k ++ (⟨#[32]⟩ ++ poS (l[k]?.getD 0))
def totS (els : List El) (q0 q1 q2 q3 : Int) (its : List It) (gg kk : List (List Int)) (s1 s2 s3 factor : Int) : ByteArray := totTo (partsP els q0 q1 q2 q3 its gg kk s1 s2 s3 factor) 4
theorem totTo_join (l : List Int) (k : Nat) : totTo l (k + 1) = totP ++ ⟨#[32]⟩ ++ joinTo ⟨#[32]⟩ (ptF l) (k + 1) := by
  induction k with
  | zero => simp [totTo, joinTo, ptF, ByteArray.append_assoc]
  | succ k ih =>
    rw [totTo, ih, joinTo.eq_2 ⟨#[32]⟩ (ptF l) (k + 1), if_pos (by omega)]
    simp only [ByteArray.append_assoc, ptF]
theorem parts_bd {els : List El} {q0 q1 q2 q3 : Int} {its : List It} {gg kk : List (List Int)} {s1 s2 s3 factor : Int} (hP : PerfG els q0 q1 q2 q3 its gg kk s1 s2 s3) (hfa : 10 ≤ factor ∧ factor ≤ 400) : ∀ x ∈ partsP els q0 q1 q2 q3 its gg kk s1 s2 s3 factor, -1000000000 ≤ x ∧ x ≤ 1000000000 := by
  have b1 := techV_bd hP.code hP.itg hP.grs hP.glen hP.len
  have b2 := facV_bd (falls := s1) hP.mks hfa
  have b3 := dedV_bd hP.fall hP.slip
  intro x hx
  simp [partsP, partsV] at hx
  omega
theorem totTo_size {l : List Int} (h : ∀ x ∈ l, -1000000000 ≤ x ∧ x ≤ 1000000000) (k : Nat) (hk : k ≤ l.length) : (totTo l k).size ≤ 6 + 14 * k := by
  induction k with
  | zero => simp [totTo, totP, ByteArray.size]
  | succ k ih =>
    have h1 := ih (by omega)
    have := h _ (getD_mem 0 l k (by omega))
    have h2 := poS_size this.1 this.2
    have z : ByteArray.size ⟨#[32]⟩ = 1 := rfl
    rw [totTo]
    simp only [ByteArray.size_append]
    omega
set_option maxHeartbeats 1000000 in
theorem totalsLine_any (w : World) (A B : Option Addr) (n m c d : Nat) (els : List El) (q0 q1 q2 q3 : Int) (I : Option Addr) (n2 c2 : Nat) (its : List It) (GA KA : Option Addr) (gn gc kn kc : Nat) (gg kk : List (List Int)) (s1 s2 s3 : Int) (hM : PP w A n els I n2 c2 its GA gn gg) (hK : RdM w KA kn kk) (hP : PerfG els q0 q1 q2 q3 its gg kk s1 s2 s3) (factor : Int) (hfa : 10 ≤ factor ∧ factor ≤ 400) (hTab : Tab w) :
    Calls Tryz.prog 41 #[.agg #[.slice A n c, .slice B m d, .int .i64 q0, .int .i64 q1, .int .i64 q2, .int .i64 q3], .agg #[.slice I n2 c2, .slice GA gn gc, .slice KA kn kc, .int .i64 s1, .int .i64 s2, .int .i64 s3], .int .i64 factor] w (fun e w' => e = .returned (.string (totS els q0 q1 q2 q3 its gg kk s1 s2 s3 factor)) ∧ ∃ y, w' = ext w y) := by
  have cp := fun W (h : Below w.heap.size w W) => partsOf_any W A B n m c d els q0 q1 q2 q3 I n2 c2 its GA KA gn gc kn kc gg kk s1 s2 s3 (hM.below h) (hK.below h) hP factor hfa
  have HB := Lib.hid (parts_bd (factor := factor) hP hfa)
  have hln : (partsP els q0 q1 q2 q3 its gg kk s1 s2 s3 factor).length = 4 := rfl
  have hz := ptsS_size HB.out 4 (by rw [hln]; omega)
  have HV : Hid (totS els q0 q1 q2 q3 its gg kk s1 s2 s3 factor = totP ++ ⟨#[32]⟩ ++ ptsS (partsP els q0 q1 q2 q3 its gg kk s1 s2 s3 factor)) := by unfold Hid totS; rw [totTo_join, ptsS, hln]
  have hz : (ptsS (partsP els q0 q1 q2 q3 its gg kk s1 s2 s3 factor)).size ≤ 56 := hz
  clear hM hK hP
  generalize partsP els q0 q1 q2 q3 its gg kk s1 s2 s3 factor = l at *
  have f0 : Fit ((⟨#[116, 111, 116, 97, 108, 115, 32]⟩ : ByteArray) ++ ptsS l) := by unfold Fit; simp only [ByteArray.size_append]; have : ByteArray.size (⟨#[116, 111, 116, 97, 108, 115, 32]⟩ : ByteArray) = 7 := rfl; omega
  have hcat : totP ++ ⟨#[32]⟩ = (⟨#[116, 111, 116, 97, 108, 115, 32]⟩ : ByteArray) := rfl
  rw [hcat] at HV
  clear hcat hz
  have ct := fun W A1 c1 (h1 : RdI W A1 4 l) (h : Below w.heap.size w W) => pointsWords_any W A1 4 c1 l h1 (by omega) (by omega) HB.out (hTab.below h)
  go_enter Tryz.func41, Tryz.ntmps41
  go_wp2_with (first | (go_at_call 72; ((with_reducible refine (cp _ (by repeat (first | exact Below.refl _ _ | assumption | refine bExt ?_ _ | refine bAlloc ?_ _ | refine bDrewN ?_ _ | refine bDrew ?_ | refine bSet ?_ (by first | exact Nat.le_refl _ | omega | (simp; done) | (simp; omega)) _))).mono ?_); rintro e w' ⟨A1, n1, c1, x1, rfl, rfl, o1⟩; (obtain rfl : n1 = 4 := o1.len.symm.trans hln))) | (go_at_call 64; ((with_reducible refine (ct _ _ _ o1.rd (by repeat (first | exact Below.refl _ _ | assumption | refine bExt ?_ _ | refine bAlloc ?_ _ | refine bDrewN ?_ _ | refine bDrew ?_ | refine bSet ?_ (by first | exact Nat.le_refl _ | omega | (simp; done) | (simp; omega)) _))).mono ?_); rintro e w' ⟨rfl, y2, rfl⟩)))
  go_ret
  exact ⟨ret_str (by rw [HV.out]), ext_ex (by repeat (first | exact Below.refl _ _ | assumption | refine bExt ?_ _ | refine bAlloc ?_ _ | refine bDrewN ?_ _ | refine bDrew ?_ | refine bSet ?_ (by first | exact Nat.le_refl _ | omega | (simp; done) | (simp; omega)) _))⟩
set_option maxHeartbeats 1000000 in
theorem ptTotals_any (w : World) (A B : Option Addr) (n m c d : Nat) (els : List El) (q0 q1 q2 q3 : Int) (I : Option Addr) (n2 c2 : Nat) (its : List It) (GA KA : Option Addr) (gn gc kn kc : Nat) (gg kk : List (List Int)) (s1 s2 s3 : Int) (hM : PP w A n els I n2 c2 its GA gn gg) (hK : RdM w KA kn kk) (hP : PerfG els q0 q1 q2 q3 its gg kk s1 s2 s3) (factor : Int) (hfa : 10 ≤ factor ∧ factor ≤ 400) :
    Calls Tryz.prog 39 #[.agg #[.slice A n c, .slice B m d, .int .i64 q0, .int .i64 q1, .int .i64 q2, .int .i64 q3], .agg #[.slice I n2 c2, .slice GA gn gc, .slice KA kn kc, .int .i64 s1, .int .i64 s2, .int .i64 s3], .int .i64 factor] w (fun e w' => e = .returned (.string (totS els q0 q1 q2 q3 its gg kk s1 s2 s3 factor)) ∧ ∃ y, w' = ext w y) := by
  have cp := fun W (h : Below w.heap.size w W) => sgParts_any W A B n m c d els q0 q1 q2 q3 I n2 c2 its GA KA gn gc kn kc gg kk s1 s2 s3 (hM.below h) (hK.below h) hP factor hfa
  have HB := Lib.hid (parts_bd (factor := factor) hP hfa)
  have hln : (partsP els q0 q1 q2 q3 its gg kk s1 s2 s3 factor).length = 4 := rfl
  have HV : Hid (totS els q0 q1 q2 q3 its gg kk s1 s2 s3 factor = totTo (partsP els q0 q1 q2 q3 its gg kk s1 s2 s3 factor) 4) := rfl
  clear hM hK hP
  generalize partsP els q0 q1 q2 q3 its gg kk s1 s2 s3 factor = l at *
  have HZ := fun k hk => totTo_size HB.out k (by rw [hln]; exact hk)
  have HS : ∀ k, Hid (totTo l (k + 1) = totTo l k ++ (⟨#[32]⟩ ++ poS (l[k]?.getD 0))) := fun k => rfl
  have HX : ∀ k, k < 4 → -1000000000 ≤ l[k]?.getD 0 ∧ l[k]?.getD 0 ≤ 1000000000 := fun k hk => HB.out _ (getD_mem 0 l k (by omega))
  go_enter Tryz.func39, Tryz.ntmps39
  go_wp2_with ((go_at_call 70; ((with_reducible refine (cp _ (by repeat (first | exact Below.refl _ _ | assumption | refine bExt ?_ _ | refine bAlloc ?_ _ | refine bDrewN ?_ _ | refine bDrew ?_ | refine bSet ?_ (by first | exact Nat.le_refl _ | omega | (simp; done) | (simp; omega)) _))).mono ?_); rintro e w' ⟨A1, n1, c1, x1, rfl, rfl, o1⟩; (obtain rfl : n1 = 4 := o1.len.symm.trans hln))))
  obtain ⟨g, rfl, hg1, hg2⟩ := o1.form_ (by omega)
  have hce := fun k (hk3 : k < 4) => o1.cell_ k hk3
  clear o1 cp HB
  obtain ⟨w1, hw1⟩ : ∃ w1, w1 = ext ((w.alloc (.cells #[.slice A n c, .slice B m d, .int .i64 q0, .int .i64 q1, .int .i64 q2, .int .i64 q3] 40)).alloc (.cells #[.slice I n2 c2, .slice GA gn gc, .slice KA kn kc, .int .i64 s1, .int .i64 s2, .int .i64 s3] 46)) x1 := ⟨_, rfl⟩
  have hbw : Below w.heap.size w w1 := by rw [hw1]; repeat (first | exact Below.refl _ _ | assumption | refine bExt ?_ _ | refine bAlloc ?_ _ | refine bDrewN ?_ _ | refine bDrew ?_ | refine bSet ?_ (by first | exact Nat.le_refl _ | omega | (simp; done) | (simp; omega)) _)
  rw [← hw1] at hce hg2 ⊢
  clear hw1
  go_loopw [7, 9, 15] (fun t _ i wr => ∃ (k : Nat) (y : World), k ≤ 4 ∧ i = .int .i64 k ∧ t = .string (totTo l k) ∧ wr = ext w1 y) (fun _ _ i _ => 4 - (intOf i).toNat)
  case atStart => exact ⟨0, _, by omega, rfl, rfl, ext_self _⟩
  case round =>
    obtain ⟨k, y, hk, rfl, rfl, rfl⟩ := hrel
    by_cases hlt : k < 4
    · have hck := hce k hlt
      have hv := HX k hlt
      have hz := HZ k hk
      have hpz := poS_size hv.1 hv.2
      have HSk := HS k
      clear hce HX HZ HS
      generalize l[k]?.getD 0 = v at *
      generalize totTo l k = s at *
      have f0 : Fit ((⟨#[32]⟩ : ByteArray) ++ poS v) := by unfold Fit; simp only [ByteArray.size_append]; have : ByteArray.size (⟨#[32]⟩ : ByteArray) = 1 := rfl; omega
      have f1 : Fit (s ++ ((⟨#[32]⟩ : ByteArray) ++ poS v)) := by unfold Fit; simp only [ByteArray.size_append]; have : ByteArray.size (⟨#[32]⟩ : ByteArray) = 1 := rfl; omega
      have cp := fun W => poText_any v W hv.1 hv.2
      clear hz hpz
      go_wp2_with ((go_at_call 54; ((with_reducible refine (cp _).mono ?_); rintro e w' ⟨rfl, x, rfl⟩)))
      go_roundw
      case rel => exact ⟨k + 1, _, by omega, by go_num, by rw [HSk.out], (ext_ex (by repeat (first | exact Below.refl _ _ | assumption | refine bExt ?_ _ | refine bAlloc ?_ _ | refine bDrewN ?_ _ | refine bDrew ?_ | refine bSet ?_ (by first | exact Nat.le_refl _ | omega | (simp; done) | (simp; omega)) _))).choose_spec⟩
      case measure => simp [intOf]; omega
    · obtain rfl : k = 4 := by omega
      go_wp2
      go_ret
      exact ⟨ret_str (by rw [HV.out]), ext_ex (by repeat (first | exact Below.refl _ _ | assumption | refine bExt ?_ _ | refine bAlloc ?_ _ | refine bDrewN ?_ _ | refine bDrew ?_ | refine bSet ?_ (by first | exact Nat.le_refl _ | omega | (simp; done) | (simp; omega)) _))⟩
end Go.Proofs.YtfmidngndddfiaaGreatDoor
namespace Go.Proofs.YtfmidngndddfiaaGreatDoor
open Go.RowKit
def askB (els : List El) (lims : List Int) (q0 q1 q2 q3 : Int) (its : List It) (gg kk : List (List Int)) (s1 s2 s3 factor : Int) : Bool := perfB els lims q0 q1 q2 q3 its gg kk s1 s2 s3 && inB factor 10 400
def totO (els : List El) (lims : List Int) (q0 q1 q2 q3 : Int) (its : List It) (gg kk : List (List Int)) (s1 s2 s3 factor : Int) : ByteArray := if askB els lims q0 q1 q2 q3 its gg kk s1 s2 s3 factor then totS els q0 q1 q2 q3 its gg kk s1 s2 s3 factor else ⟨#[]⟩
theorem ask_of {els : List El} {lims : List Int} {q0 q1 q2 q3 : Int} {its : List It} {gg kk : List (List Int)} {s1 s2 s3 factor : Int} (h : askB els lims q0 q1 q2 q3 its gg kk s1 s2 s3 factor = true) : PerfG els q0 q1 q2 q3 its gg kk s1 s2 s3 ∧ 10 ≤ factor ∧ factor ≤ 400 := by
  simp only [askB, Bool.and_eq_true] at h
  exact ⟨perf_of h.1, inB_iff.1 h.2⟩
theorem cpFactor_any (factor : Int) (w : World) : Calls Tryz.prog 69 #[.int .i64 factor] w fun e w' => e = .returned (.bool (inB factor 10 400)) ∧ w = w' := by
  have cw := fun W => l1In_any factor 10 400 W
  go_enter Tryz.func69, Tryz.ntmps69
  go_wp2_with ((go_at_call 23; ((with_reducible refine (cw _).mono ?_); rintro e w' ⟨rfl, rfl⟩)))
  go_ret
  exact ⟨rfl, rfl⟩
theorem isFactor_any (factor : Int) (w : World) : Calls Tryz.prog 71 #[.int .i64 factor] w fun e w' => e = .returned (.bool (inB factor 10 400)) ∧ w = w' := by
  have cw := fun W => within_any factor 10 400 W
  go_enter Tryz.func71, Tryz.ntmps71
  go_wp2_with ((go_at_call 31; ((with_reducible refine (cw _).mono ?_); rintro e w' ⟨rfl, rfl⟩)))
  go_ret
  exact ⟨rfl, rfl⟩
theorem sgAsked_any (w : World) (A B : Option Addr) (n m c d : Nat) (els : List El) (lims : List Int) (q0 q1 q2 q3 : Int) (hc : CodeR w A n B m els lims) (I : Option Addr) (n2 c2 : Nat) (its : List It) (hi : ItsR w I n2 c2 its) (GA KA : Option Addr) (gn gc kn kc : Nat) (gg kk : List (List Int)) (hm : RdMk w GA gn KA kn gg kk) (s1 s2 s3 factor : Int) :
    Calls Tryz.prog 38 #[.agg #[.slice A n c, .slice B m d, .int .i64 q0, .int .i64 q1, .int .i64 q2, .int .i64 q3], .agg #[.slice I n2 c2, .slice GA gn gc, .slice KA kn kc, .int .i64 s1, .int .i64 s2, .int .i64 s3], .int .i64 factor] w fun e w' => e = .returned (.bool (askB els lims q0 q1 q2 q3 its gg kk s1 s2 s3 factor)) ∧ ∃ y, w' = ext w y := by
  have cg := fun W (h : Below w.heap.size w W) => sgGood_any W A B n m c d els lims q0 q1 q2 q3 (hc.below h) I n2 c2 its (hi.below h) GA KA gn gc kn kc gg kk (hm.below h) s1 s2 s3
  have cw := fun W => cpFactor_any factor W
  have HV : Hid (askB els lims q0 q1 q2 q3 its gg kk s1 s2 s3 factor = (perfB els lims q0 q1 q2 q3 its gg kk s1 s2 s3 && inB factor 10 400)) := rfl
  clear hc hi hm
  generalize perfB els lims q0 q1 q2 q3 its gg kk s1 s2 s3 = b0 at *
  generalize inB factor 10 400 = b1 at *
  cases b0
  · go_enter Tryz.func38, Tryz.ntmps38
    go_wp2_with (first | (go_at_call 22; ((with_reducible refine (cg _ (by repeat (first | exact Below.refl _ _ | assumption | refine bExt ?_ _ | refine bAlloc ?_ _ | refine bDrewN ?_ _ | refine bDrew ?_ | refine bSet ?_ (by first | exact Nat.le_refl _ | omega | (simp; done) | (simp; omega)) _))).mono ?_); rintro e w' ⟨rfl, y1, rfl⟩)) | (go_at_call 69; ((with_reducible refine (cw _).mono ?_); rintro e w' ⟨rfl, rfl⟩)))
    go_ret
    exact ⟨ret_bool (by rw [HV.out]; rfl), ext_ex (by repeat (first | exact Below.refl _ _ | assumption | refine bExt ?_ _ | refine bAlloc ?_ _ | refine bDrewN ?_ _ | refine bDrew ?_ | refine bSet ?_ (by first | exact Nat.le_refl _ | omega | (simp; done) | (simp; omega)) _))⟩
  · go_enter Tryz.func38, Tryz.ntmps38
    go_wp2_with (first | (go_at_call 22; ((with_reducible refine (cg _ (by repeat (first | exact Below.refl _ _ | assumption | refine bExt ?_ _ | refine bAlloc ?_ _ | refine bDrewN ?_ _ | refine bDrew ?_ | refine bSet ?_ (by first | exact Nat.le_refl _ | omega | (simp; done) | (simp; omega)) _))).mono ?_); rintro e w' ⟨rfl, y1, rfl⟩)) | (go_at_call 69; ((with_reducible refine (cw _).mono ?_); rintro e w' ⟨rfl, rfl⟩)))
    go_ret
    exact ⟨ret_bool (by rw [HV.out]; rfl), ext_ex (by repeat (first | exact Below.refl _ _ | assumption | refine bExt ?_ _ | refine bAlloc ?_ _ | refine bDrewN ?_ _ | refine bDrew ?_ | refine bSet ?_ (by first | exact Nat.le_refl _ | omega | (simp; done) | (simp; omega)) _))⟩
theorem canScore_any (w : World) (A B : Option Addr) (n m c d : Nat) (els : List El) (lims : List Int) (q0 q1 q2 q3 : Int) (hc : CodeR w A n B m els lims) (I : Option Addr) (n2 c2 : Nat) (its : List It) (hi : ItsR w I n2 c2 its) (GA KA : Option Addr) (gn gc kn kc : Nat) (gg kk : List (List Int)) (hm : RdMk w GA gn KA kn gg kk) (s1 s2 s3 factor : Int) :
    Calls Tryz.prog 40 #[.agg #[.slice A n c, .slice B m d, .int .i64 q0, .int .i64 q1, .int .i64 q2, .int .i64 q3], .agg #[.slice I n2 c2, .slice GA gn gc, .slice KA kn kc, .int .i64 s1, .int .i64 s2, .int .i64 s3], .int .i64 factor] w fun e w' => e = .returned (.bool (askB els lims q0 q1 q2 q3 its gg kk s1 s2 s3 factor)) ∧ ∃ y, w' = ext w y := by
  have cg := fun W (h : Below w.heap.size w W) => isPerformance_any W A B n m c d els lims q0 q1 q2 q3 (hc.below h) I n2 c2 its (hi.below h) GA KA gn gc kn kc gg kk (hm.below h) s1 s2 s3
  have cw := fun W => isFactor_any factor W
  have HV : Hid (askB els lims q0 q1 q2 q3 its gg kk s1 s2 s3 factor = (perfB els lims q0 q1 q2 q3 its gg kk s1 s2 s3 && inB factor 10 400)) := rfl
  clear hc hi hm
  generalize perfB els lims q0 q1 q2 q3 its gg kk s1 s2 s3 = b0 at *
  generalize inB factor 10 400 = b1 at *
  cases b0
  · go_enter Tryz.func40, Tryz.ntmps40
    go_wp2_with (first | (go_at_call 30; ((with_reducible refine (cg _ (by repeat (first | exact Below.refl _ _ | assumption | refine bExt ?_ _ | refine bAlloc ?_ _ | refine bDrewN ?_ _ | refine bDrew ?_ | refine bSet ?_ (by first | exact Nat.le_refl _ | omega | (simp; done) | (simp; omega)) _))).mono ?_); rintro e w' ⟨rfl, y1, rfl⟩)) | (go_at_call 71; ((with_reducible refine (cw _).mono ?_); rintro e w' ⟨rfl, rfl⟩)))
    go_ret
    exact ⟨ret_bool (by rw [HV.out]; rfl), ext_ex (by repeat (first | exact Below.refl _ _ | assumption | refine bExt ?_ _ | refine bAlloc ?_ _ | refine bDrewN ?_ _ | refine bDrew ?_ | refine bSet ?_ (by first | exact Nat.le_refl _ | omega | (simp; done) | (simp; omega)) _))⟩
  · go_enter Tryz.func40, Tryz.ntmps40
    go_wp2_with (first | (go_at_call 30; ((with_reducible refine (cg _ (by repeat (first | exact Below.refl _ _ | assumption | refine bExt ?_ _ | refine bAlloc ?_ _ | refine bDrewN ?_ _ | refine bDrew ?_ | refine bSet ?_ (by first | exact Nat.le_refl _ | omega | (simp; done) | (simp; omega)) _))).mono ?_); rintro e w' ⟨rfl, y1, rfl⟩)) | (go_at_call 71; ((with_reducible refine (cw _).mono ?_); rintro e w' ⟨rfl, rfl⟩)))
    go_ret
    exact ⟨ret_bool (by rw [HV.out]; rfl), ext_ex (by repeat (first | exact Below.refl _ _ | assumption | refine bExt ?_ _ | refine bAlloc ?_ _ | refine bDrewN ?_ _ | refine bDrew ?_ | refine bSet ?_ (by first | exact Nat.le_refl _ | omega | (simp; done) | (simp; omega)) _))⟩
set_option maxHeartbeats 1000000 in
theorem specTotalsLine_any (w : World) (A B : Option Addr) (n m c d : Nat) (els : List El) (lims : List Int) (q0 q1 q2 q3 : Int) (hc : CodeR w A n B m els lims) (I : Option Addr) (n2 c2 : Nat) (its : List It) (hi : ItsR w I n2 c2 its) (GA KA : Option Addr) (gn gc kn kc : Nat) (gg kk : List (List Int)) (hm : RdMk w GA gn KA kn gg kk) (s1 s2 s3 factor : Int) :
    Calls Tryz.prog 14 #[.agg #[.slice A n c, .slice B m d, .int .i64 q0, .int .i64 q1, .int .i64 q2, .int .i64 q3], .agg #[.slice I n2 c2, .slice GA gn gc, .slice KA kn kc, .int .i64 s1, .int .i64 s2, .int .i64 s3], .int .i64 factor] w (RetSK w (totO els lims q0 q1 q2 q3 its gg kk s1 s2 s3 factor) (askB els lims q0 q1 q2 q3 its gg kk s1 s2 s3 factor)) := by
  have cg := fun W (h : Below w.heap.size w W) => sgAsked_any W A B n m c d els lims q0 q1 q2 q3 (hc.below h) I n2 c2 its (hi.below h) GA KA gn gc kn kc gg kk (hm.below h) s1 s2 s3 factor
  have HO : Hid (totO els lims q0 q1 q2 q3 its gg kk s1 s2 s3 factor = if askB els lims q0 q1 q2 q3 its gg kk s1 s2 s3 factor then totS els q0 q1 q2 q3 its gg kk s1 s2 s3 factor else ⟨#[]⟩) := rfl
  cases hp : askB els lims q0 q1 q2 q3 its gg kk s1 s2 s3 factor
  · rw [hp] at cg HO
    clear hp hc hi hm
    go_enter Tryz.func14, Tryz.ntmps14
    go_wp2_with (first | (go_at_call 38; ((with_reducible refine (cg _ (by repeat (first | exact Below.refl _ _ | assumption | refine bExt ?_ _ | refine bAlloc ?_ _ | refine bDrewN ?_ _ | refine bDrew ?_ | refine bSet ?_ (by first | exact Nat.le_refl _ | omega | (simp; done) | (simp; omega)) _))).mono ?_); rintro e w' ⟨rfl, y1, rfl⟩)))
    go_ret2
    exact RetSK.mk_ (by rw [HO.out]; rfl) rfl (by repeat (first | exact Below.refl _ _ | assumption | refine bExt ?_ _ | refine bAlloc ?_ _ | refine bDrewN ?_ _ | refine bDrew ?_ | refine bSet ?_ (by first | exact Nat.le_refl _ | omega | (simp; done) | (simp; omega)) _))
  · have hP := ask_of hp
    have hM : PP w A n els I n2 c2 its GA gn gg := ⟨⟨hc.1, hc.2.2.1⟩, ⟨hi.1, hi.2.2.1⟩, hm.1⟩
    have hK := hm.2.1
    have cl := fun W (h : Below w.heap.size w W) => ptTotals_any W A B n m c d els q0 q1 q2 q3 I n2 c2 its GA KA gn gc kn kc gg kk s1 s2 s3 (hM.below h) (hK.below h) hP.1 factor hP.2
    rw [hp] at cg HO
    have HO2 : Hid (totO els lims q0 q1 q2 q3 its gg kk s1 s2 s3 factor = totS els q0 q1 q2 q3 its gg kk s1 s2 s3 factor) := by unfold Hid; rw [HO.out]; rfl
    clear hp hc hi hm hP hM hK HO
    go_enter Tryz.func14, Tryz.ntmps14
    go_wp2_with (first | (go_at_call 38; ((with_reducible refine (cg _ (by repeat (first | exact Below.refl _ _ | assumption | refine bExt ?_ _ | refine bAlloc ?_ _ | refine bDrewN ?_ _ | refine bDrew ?_ | refine bSet ?_ (by first | exact Nat.le_refl _ | omega | (simp; done) | (simp; omega)) _))).mono ?_); rintro e w' ⟨rfl, y1, rfl⟩)) | (go_at_call 39; ((with_reducible refine (cl _ (by repeat (first | exact Below.refl _ _ | assumption | refine bExt ?_ _ | refine bAlloc ?_ _ | refine bDrewN ?_ _ | refine bDrew ?_ | refine bSet ?_ (by first | exact Nat.le_refl _ | omega | (simp; done) | (simp; omega)) _))).mono ?_); rintro e w' ⟨rfl, y2, rfl⟩)))
    go_ret2
    exact RetSK.mk_ (by rw [HO2.out]) rfl (by repeat (first | exact Below.refl _ _ | assumption | refine bExt ?_ _ | refine bAlloc ?_ _ | refine bDrewN ?_ _ | refine bDrew ?_ | refine bSet ?_ (by first | exact Nat.le_refl _ | omega | (simp; done) | (simp; omega)) _))
set_option maxHeartbeats 1000000 in
theorem implTotalsLine_any (w : World) (A B : Option Addr) (n m c d : Nat) (els : List El) (lims : List Int) (q0 q1 q2 q3 : Int) (hc : CodeR w A n B m els lims) (I : Option Addr) (n2 c2 : Nat) (its : List It) (hi : ItsR w I n2 c2 its) (GA KA : Option Addr) (gn gc kn kc : Nat) (gg kk : List (List Int)) (hm : RdMk w GA gn KA kn gg kk) (s1 s2 s3 factor : Int) (hTab : Tab w) :
    Calls Tryz.prog 15 #[.agg #[.slice A n c, .slice B m d, .int .i64 q0, .int .i64 q1, .int .i64 q2, .int .i64 q3], .agg #[.slice I n2 c2, .slice GA gn gc, .slice KA kn kc, .int .i64 s1, .int .i64 s2, .int .i64 s3], .int .i64 factor] w (RetSK w (totO els lims q0 q1 q2 q3 its gg kk s1 s2 s3 factor) (askB els lims q0 q1 q2 q3 its gg kk s1 s2 s3 factor)) := by
  have cg := fun W (h : Below w.heap.size w W) => canScore_any W A B n m c d els lims q0 q1 q2 q3 (hc.below h) I n2 c2 its (hi.below h) GA KA gn gc kn kc gg kk (hm.below h) s1 s2 s3 factor
  have HO : Hid (totO els lims q0 q1 q2 q3 its gg kk s1 s2 s3 factor = if askB els lims q0 q1 q2 q3 its gg kk s1 s2 s3 factor then totS els q0 q1 q2 q3 its gg kk s1 s2 s3 factor else ⟨#[]⟩) := rfl
  cases hp : askB els lims q0 q1 q2 q3 its gg kk s1 s2 s3 factor
  · rw [hp] at cg HO
    clear hp hc hi hm
    go_enter Tryz.func15, Tryz.ntmps15
    go_wp2_with (first | (go_at_call 40; ((with_reducible refine (cg _ (by repeat (first | exact Below.refl _ _ | assumption | refine bExt ?_ _ | refine bAlloc ?_ _ | refine bDrewN ?_ _ | refine bDrew ?_ | refine bSet ?_ (by first | exact Nat.le_refl _ | omega | (simp; done) | (simp; omega)) _))).mono ?_); rintro e w' ⟨rfl, y1, rfl⟩)))
    go_ret2
    exact RetSK.mk_ (by rw [HO.out]; rfl) rfl (by repeat (first | exact Below.refl _ _ | assumption | refine bExt ?_ _ | refine bAlloc ?_ _ | refine bDrewN ?_ _ | refine bDrew ?_ | refine bSet ?_ (by first | exact Nat.le_refl _ | omega | (simp; done) | (simp; omega)) _))
  · have hP := ask_of hp
    have hM : PP w A n els I n2 c2 its GA gn gg := ⟨⟨hc.1, hc.2.2.1⟩, ⟨hi.1, hi.2.2.1⟩, hm.1⟩
    have hK := hm.2.1
    have cl := fun W (h : Below w.heap.size w W) => totalsLine_any W A B n m c d els q0 q1 q2 q3 I n2 c2 its GA KA gn gc kn kc gg kk s1 s2 s3 (hM.below h) (hK.below h) hP.1 factor hP.2 (hTab.below h)
    rw [hp] at cg HO
    have HO2 : Hid (totO els lims q0 q1 q2 q3 its gg kk s1 s2 s3 factor = totS els q0 q1 q2 q3 its gg kk s1 s2 s3 factor) := by unfold Hid; rw [HO.out]; rfl
    clear hp hc hi hm hP hM hK HO
    go_enter Tryz.func15, Tryz.ntmps15
    go_wp2_with (first | (go_at_call 40; ((with_reducible refine (cg _ (by repeat (first | exact Below.refl _ _ | assumption | refine bExt ?_ _ | refine bAlloc ?_ _ | refine bDrewN ?_ _ | refine bDrew ?_ | refine bSet ?_ (by first | exact Nat.le_refl _ | omega | (simp; done) | (simp; omega)) _))).mono ?_); rintro e w' ⟨rfl, y1, rfl⟩)) | (go_at_call 41; ((with_reducible refine (cl _ (by repeat (first | exact Below.refl _ _ | assumption | refine bExt ?_ _ | refine bAlloc ?_ _ | refine bDrewN ?_ _ | refine bDrew ?_ | refine bSet ?_ (by first | exact Nat.le_refl _ | omega | (simp; done) | (simp; omega)) _))).mono ?_); rintro e w' ⟨rfl, y2, rfl⟩)))
    go_ret2
    exact RetSK.mk_ (by rw [HO2.out]) rfl (by repeat (first | exact Below.refl _ _ | assumption | refine bExt ?_ _ | refine bAlloc ?_ _ | refine bDrewN ?_ _ | refine bDrew ?_ | refine bSet ?_ (by first | exact Nat.le_refl _ | omega | (simp; done) | (simp; omega)) _))
end Go.Proofs.YtfmidngndddfiaaGreatDoor
