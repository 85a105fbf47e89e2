/- The program's cues of a day. Conditions: valid slots and day. -/
import Derived.Test.YtpjaiihkgeabiaaDoorCuesP
set_option linter.unusedVariables false
set_option linter.unusedSimpArgs false
set_option maxRecDepth 100000
namespace Go.Proofs.YtpjaiihkgeabiaaDoor
open Go.RowKit
theorem sortStableOC (w : World) (base : Nat) (A : Option Addr) (n c : Nat) (L : List T3) (ho : Ow3 62 base w A n c L) (hn : n ≤ 1099511627776) (hC : CmpC cKey L) :
    Calls Tryd.prog 100 #[.slice A n c, (.func (.func 101) #[] #[])] w fun e w' => e = .returned (.tuple #[]) ∧ ∃ T, Srt cKey T ∧ SF cKey T L ∧ Ow3 62 base w' A n c T ∧ ∃ row, w.grownBy w' row ∧ ∀ k, row = some k → base ≤ k := by
  rcases Nat.eq_zero_or_pos n with h | h
  · subst h
    have hL : L = [] := List.eq_nil_of_length_eq_zero ho.len
    subst hL
    exact (sortStableC0 w A c ⟨0, 0, none⟩).mono fun e w' ⟨he, hw⟩ => ⟨he, [], Srt.nil, SF.refl _, hw ▸ ho, none, hw ▸ World.grownBy.refl _ _, fun k hk => by simp at hk⟩
  · obtain ⟨g, rfl, hg1, hg2⟩ := ho.form_ h
    exact (sortStableC_any w base g n c L cKey ⟨0, 0, none⟩ ho hn hC).mono fun e w' ⟨he, T, h1, h2, h3, h4⟩ => ⟨he, T, h1, h2, h3, some g, h4, fun k hk => by injection hk with hk; omega⟩
set_option maxHeartbeats 4000000 in
theorem cuesOf_any (w : World) (L : Option Addr) (n cl : Nat) (l : List (Int × Int)) (a b c gap : Int) (hl : RdS w L n l) (hn : n ≤ 1099511627776) (ht : timedB l a b c gap = true) :
    Calls Tryd.prog 74 #[.slice L n cl, .agg #[.int .i64 a, .int .i64 b, .int .i64 c, .int .i64 gap]] w (Ret3 62 w (cuT l a b c gap)) := by
  have Hl := Lib.hid hl.len
  obtain ⟨h1, h2, hn40, hSl, hbd, hg0, hg1⟩ := timed_facts hl.len ht
  have hmu := fun k (hk : k < n) => slotsB_music h1 k (by rw [Hl.out]; exact hk)
  have hsb := fun k (hk : k < n) => getD_mem_bd (k := k) (by rw [hSl]; exact hk) hbd
  have hW := runW_facts ht
  have hAok := cuA_ok ht
  have HA : Hid (cuA l a b c gap = wmC (runW l a b c gap 0 0) (runW l a b c gap 0 0).length ++ slC l (runS l a b c gap 0 0) gap n) := by show _ = _; rw [← Hl.out]; rfl
  have HT : Hid (cuT l a b c gap = stS cKey (cuA l a b c gap)) := rfl
  rw [HT.out]
  generalize cuA l a b c gap = AL at *
  go_enter Tryd.func74, Tryd.ntmps74
  go_wp2_with (first | (go_at_call 77; ((with_reducible refine (timesOfDay_any _ _ _ _ _ _ _ _ _ _ _ (hl.below (by repeat (first | exact Below.refl _ _ | assumption | refine bExt ?_ _ | refine bAlloc ?_ _ | refine bDrewN ?_ _ | refine bDrew ?_ | refine bSet ?_ (by first | exact Nat.le_refl _ | omega | (simp; done) | (simp; omega)) _))) h1 h2 (by omega) (by omega)).mono ?_); rintro e w' ⟨A, n1, c1, B, m1, d1, x, rfl, rfl, oA, oB⟩; (obtain rfl : n = n1 := (oA.len.symm.trans hSl).symm))))
  have hrA := oA.rd
  have hrB := oB.rd
  have hBR : Below w.heap.size w (ext (w.alloc (.cells #[.int .i64 a, .int .i64 b, .int .i64 c, .int .i64 gap] 53)) x) := by repeat (first | exact Below.refl _ _ | assumption | refine bExt ?_ _ | refine bAlloc ?_ _ | refine bDrewN ?_ _ | refine bDrew ?_ | refine bSet ?_ (by first | exact Nat.le_refl _ | omega | (simp; done) | (simp; omega)) _)
  have hlR := hl.below hBR
  have hcg : (ext (w.alloc (.cells #[.int .i64 a, .int .i64 b, .int .i64 c, .int .i64 gap] 53)) x).cell? ⟨w.heap.size, 3, none⟩ = some (.int .i64 gap) := by simp [go_sem]
  have hgl : w.heap.size < (ext (w.alloc (.cells #[.int .i64 a, .int .i64 b, .int .i64 c, .int .i64 gap] 53)) x).heap.size := by have := ext_le (w.alloc (.cells #[.int .i64 a, .int .i64 b, .int .i64 c, .int .i64 gap] 53)) x; simp at this; omega
  have HWl := Lib.hid oB.len
  have HBR := Lib.hid hBR
  clear oA oB hBR hl h1 h2 hbd ht HT
  generalize runS l a b c gap 0 0 = S at *
  generalize runW l a b c gap 0 0 = W at *
  have hm40 : m1 ≤ 40 := by rw [← HWl.out]; exact hW.1
  unfold Hid at HA
  rw [HWl.out] at HA
  replace HA := Lib.hid HA
  clear hW
  have o0 := OwC.lit_ (Below.refl _ (ext (w.alloc (.cells #[.int .i64 a, .int .i64 b, .int .i64 c, .int .i64 gap] 53)) x)) [] (by simp [maxLen]) #[] rfl
  obtain ⟨y0, hy0⟩ := ext_ex (show Below (ext (w.alloc (.cells #[.int .i64 a, .int .i64 b, .int .i64 c, .int .i64 gap] 53)) x).heap.size (ext (w.alloc (.cells #[.int .i64 a, .int .i64 b, .int .i64 c, .int .i64 gap] 53)) x) ((ext (w.alloc (.cells #[.int .i64 a, .int .i64 b, .int .i64 c, .int .i64 gap] 53)) x).alloc (.cells #[] 62)) from by repeat (first | exact Below.refl _ _ | assumption | refine bExt ?_ _ | refine bAlloc ?_ _ | refine bDrewN ?_ _ | refine bDrew ?_ | refine bSet ?_ (by first | exact Nat.le_refl _ | omega | (simp; done) | (simp; omega)) _))
  rw [hy0] at o0 ⊢
  clear hy0
  generalize (ext (w.alloc (.cells #[.int .i64 a, .int .i64 b, .int .i64 c, .int .i64 gap] 53)) x) = R at *
  go_loopw [8, 24] (fun v i wr => ∃ (k : Nat) (D : Option Addr) (q : Nat) (y : World), k ≤ m1 ∧ i = .int .i64 k ∧ v = .slice D k q ∧ wr = ext R y ∧ Ow3 62 R.heap.size (ext R y) D k q (wmC W k)) (fun _ i _ => m1 - (intOf i).toNat)
  case atStart => exact ⟨0, _, 0, y0, by omega, rfl, rfl, rfl, by simpa [wmC] using o0⟩
  case round =>
    obtain ⟨k, D, q, y, hk, rfl, rfl, rfl, ho⟩ := hrel
    by_cases hlt : k < m1
    · obtain ⟨bB, oB, rfl, hbB, hcB⟩ := hrB.open_ (by omega)
      have hck := hcB k hlt
      rw [List.getD_eq_getElem?_getD] at hck
      clear hcB
      have HS := Lib.hid (wmC_succ W k (by rw [HWl.out]; exact hlt))
      generalize W[k]?.getD 0 = t0 at *
      go_wp2_with (at_builtin; (refine wpl_app_cue R rfl _ _ rfl D k q (wmC W k) rfl ho ?_ ?_ _ 1 1 [(t0, 1, 0)] rfl (Rd3.one_ ?_ ?_ ?_ ?_) (Below.refl _ _) (by omega) ?_); (focus (repeat (first | exact Below.refl _ _ | assumption | refine bExt ?_ _ | refine bAlloc ?_ _ | refine bDrewN ?_ _ | refine bDrew ?_ | refine bSet ?_ (by first | exact Nat.le_refl _ | omega | (simp; done) | (simp; omega)) _))); (focus (repeat (first | exact Below.refl _ _ | assumption | refine bExt ?_ _ | refine bAlloc ?_ _ | refine bDrewN ?_ _ | refine bDrew ?_ | refine bSet ?_ (by first | exact Nat.le_refl _ | omega | (simp; done) | (simp; omega)) _))); (focus (simp [go_sem])); (focus (simp [go_sem])); (focus (simp [go_sem])); (focus (simp [go_sem])); intro D' q' y1 oD' hga hda)
      go_roundw
      case rel => exact ⟨k + 1, D', q', y1, by omega, by go_num, rfl, rfl, by rw [HS.out]; exact oD'⟩
      case measure => simp [intOf]; omega
    · obtain rfl : k = m1 := by omega
      have ho := ho
      rw [← HWl.out] at ho
      go_wp2
      go_loopw [8, 36] (fun v i wr => ∃ (k' : Nat) (D : Option Addr) (q : Nat) (y : World), k' ≤ n ∧ i = .int .i64 k' ∧ v = .slice D (k + 3 * k') q ∧ wr = ext R y ∧ Ow3 62 R.heap.size (ext R y) D (k + 3 * k') q (wmC W k ++ slC l S gap k')) (fun _ i _ => n - (intOf i).toNat)
      case atStart => exact ⟨0, D, q, y, by omega, rfl, by simp, rfl, by simpa [slC, HWl.out] using ho⟩
      case round =>
        clear ho
        obtain ⟨j, D, q, y, hj, rfl, rfl, rfl, ho⟩ := hrel
        by_cases hlt2 : j < n
        · obtain ⟨bA, oA, rfl, hbA, hcA⟩ := hrA.open_ (by omega)
          have hcj := hcA j hlt2
          rw [List.getD_eq_getElem?_getD] at hcj
          clear hcA
          obtain ⟨bL, oL, rfl, hbL, hm0, hm1⟩ := hlR.at_ j hlt2
          have b1 := hsb j hlt2
          have b2 := hmu j hlt2
          have HS := Lib.hid (slC_succ l S gap j)
          generalize S[j]?.getD 0 = s0 at *
          generalize (l[j]?.getD (0, 0)).1 = sk at *
          generalize (l[j]?.getD (0, 0)).2 = mu at *
          have hw1 : IntKind.i64.wrap (s0 + mu) = s0 + mu := IntWalk.i64_in _ (by omega)
          have hw2 : IntKind.i64.wrap (s0 + mu + gap) = s0 + mu + gap := IntWalk.i64_in _ (by omega)
          have hjI : (j : Int) < n := by omega
          go_wp2
          go_region_law (refine step_app_cue R rfl _ _ rfl D _ q (wmC W k ++ slC l S gap j) rfl ho ?_ ?_ _ 3 3 [(s0, 2, sk), (s0 + mu, 3, sk), (s0 + mu + gap, 4, sk)] rfl (Rd3.three_ ?_ ?_ ?_ ?_ ?_ ?_ ?_ ?_ ?_ ?_) (Below.refl _ _) (by omega) ?_; (focus (repeat (first | exact Below.refl _ _ | assumption | refine bExt ?_ _ | refine bAlloc ?_ _ | refine bDrewN ?_ _ | refine bDrew ?_ | refine bSet ?_ (by first | exact Nat.le_refl _ | omega | (simp; done) | (simp; omega)) _))); (focus (repeat (first | exact Below.refl _ _ | assumption | refine bExt ?_ _ | refine bAlloc ?_ _ | refine bDrewN ?_ _ | refine bDrew ?_ | refine bSet ?_ (by first | exact Nat.le_refl _ | omega | (simp; done) | (simp; omega)) _))); (focus (simp [go_sem])); (focus (simp [go_sem])); (focus (simp [go_sem])); (focus (simp [go_sem])); (focus (simp [go_sem])); (focus (simp [go_sem])); (focus (simp [go_sem])); (focus (simp [go_sem])); (focus (simp [go_sem])); (focus (simp [go_sem])); intro D' q' y1 oD' hga hda)
          all_goals
            go_wp2
            have o5 := oD'
            rw [List.append_assoc, ← HS.out] at o5
            have hln : k + 3 * j + 3 = k + 3 * (j + 1) := by omega
            rw [hln] at o5
            have Hln := Lib.hid hln
            clear hln oD' hga hda
            go_roundw
            case rel => exact ⟨j + 1, D', q', y1, by omega, by go_num, congrArg (fun s => Value.slice D' s q') (by have := Hln.out; omega), rfl, o5⟩
            case measure => simp [intOf]; omega
        · obtain rfl : j = n := by omega
          have ho := ho
          rw [← HA.out] at ho
          have hlk := ho.len
          have hnb : k + 3 * j ≤ 1099511627776 := by omega
          have cS := fun w' h => sortStableOC w' R.heap.size D (k + 3 * j) q AL h hnb (cueCmp hAok)
          go_wp2_with (go_at_call 100; ((with_reducible refine (cS _ ho).mono ?_); rintro e w' ⟨rfl, T, hT1, hT2, o2, row, hgr, hrow⟩))
          rw [stS_eq hT1 hT2] at o2
          have hB2 : Below R.heap.size R w' := (ext_below R y).grown hgr (ext_le R y) hrow
          go_wp2
          go_ret
          exact Ret3.mk_ o2 HBR.out.size (HBR.out.trans (hB2.mono HBR.out.size))
end Go.Proofs.YtpjaiihkgeabiaaDoor
