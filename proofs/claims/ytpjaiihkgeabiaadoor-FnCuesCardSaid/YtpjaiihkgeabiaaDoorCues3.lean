/- The reference's cues of a day. Conditions: valid slots and day. -/
import Derived.Test.YtpjaiihkgeabiaaDoorCuesP
import Derived.Test.YtpjaiihkgeabiaaDoorBoard3
set_option linter.unusedVariables false
set_option linter.unusedSimpArgs false
set_option maxRecDepth 100000
namespace Go.Proofs.YtpjaiihkgeabiaaDoor
open Go.RowKit
set_option maxHeartbeats 4000000 in
theorem srCues_any (w : World) (L : Option Addr) (n cl : Nat) (l : List (Int × Int)) (a b c gap : Int) (hl : RdS w L n l) (hn : n ≤ 1099511627776) (ht : timedB l a b c gap = true) :
    Calls Tryd.prog 76 #[.slice L n cl, .agg #[.int .i64 a, .int .i64 b, .int .i64 c, .int .i64 gap]] w (Ret3 62 w (cuT l a b c gap)) := by
  have Hl := Lib.hid hl.len
  obtain ⟨h1, h2, hn40, hSl, hbd, hg0, hg1⟩ := timed_facts hl.len ht
  have hmu := fun k (hk : k < n) => slotsB_music h1 k (by rw [Hl.out]; exact hk)
  have hsb := fun k (hk : k < n) => getD_mem_bd (k := k) (by rw [hSl]; exact hk) hbd
  have hW := runW_facts ht
  have hAok := cuA_ok ht
  have hAlen := cuA_len ht
  have HA : Hid (cuA l a b c gap = wmC (runW l a b c gap 0 0) (runW l a b c gap 0 0).length ++ slC l (runS l a b c gap 0 0) gap n) := by show _ = _; rw [← Hl.out]; rfl
  have HT : Hid (cuT l a b c gap = stS cKey (cuA l a b c gap)) := rfl
  rw [HT.out]
  generalize cuA l a b c gap = AL at *
  go_enter Tryd.func76, Tryd.ntmps76
  go_wp2_with (first | (go_at_call 78; ((with_reducible refine (tiRun_any _ _ _ _ _ _ _ _ _ _ _ (hl.below (by repeat (first | exact Below.refl _ _ | assumption | refine bExt ?_ _ | refine bAlloc ?_ _ | refine bDrewN ?_ _ | refine bDrew ?_ | refine bSet ?_ (by first | exact Nat.le_refl _ | omega | (simp; done) | (simp; omega)) _))) h1 h2 (by omega) (by omega)).mono ?_); rintro e w' ⟨A, n1, c1, B, m1, d1, x, rfl, rfl, oA, oB⟩; (rw [runS_zero l a b c gap (-1) 0] at oA); (rw [runW_zero l a b c gap (-1) 0] at oB); (obtain rfl : n = n1 := (oA.len.symm.trans hSl).symm))))
  have hrA := oA.rd
  have hrB := oB.rd
  have hBR : Below w.heap.size w (ext (w.alloc (.cells #[.int .i64 a, .int .i64 b, .int .i64 c, .int .i64 gap] 53)) x) := by repeat (first | exact Below.refl _ _ | assumption | refine bExt ?_ _ | refine bAlloc ?_ _ | refine bDrewN ?_ _ | refine bDrew ?_ | refine bSet ?_ (by first | exact Nat.le_refl _ | omega | (simp; done) | (simp; omega)) _)
  have hlR := hl.below hBR
  have hcg : (ext (w.alloc (.cells #[.int .i64 a, .int .i64 b, .int .i64 c, .int .i64 gap] 53)) x).cell? ⟨w.heap.size, 3, none⟩ = some (.int .i64 gap) := by simp [go_sem]
  have hgl : w.heap.size < (ext (w.alloc (.cells #[.int .i64 a, .int .i64 b, .int .i64 c, .int .i64 gap] 53)) x).heap.size := by have := ext_le (w.alloc (.cells #[.int .i64 a, .int .i64 b, .int .i64 c, .int .i64 gap] 53)) x; simp at this; omega
  have HWl := Lib.hid oB.len
  have HBR := Lib.hid hBR
  clear oA oB hBR hl h1 h2 hbd ht HT
  generalize runS l a b c gap 0 0 = S at *
  generalize runW l a b c gap 0 0 = W at *
  have hm40 : m1 ≤ 40 := by rw [← HWl.out]; exact hW.1
  unfold Hid at HA
  rw [HWl.out] at HA
  replace HA := Lib.hid HA
  clear hW
  generalize (ext (w.alloc (.cells #[.int .i64 a, .int .i64 b, .int .i64 c, .int .i64 gap] 53)) x) = R at *
  go_loopw [8, 27] (fun v i wr => ∃ (k : Nat) (D : Option Addr) (q : Nat) (y : World), k ≤ m1 ∧ i = .int .i64 k ∧ v = .slice D k q ∧ wr = ext R y ∧ Ow3 62 R.heap.size (ext R y) D k q (wmC W k)) (fun _ i _ => m1 - (intOf i).toNat)
  case atStart => exact ⟨0, none, 0, _, by omega, rfl, rfl, ext_self R, by simpa [wmC] using (Ow3.nil_ (e := 62) (base := R.heap.size) (w := ext R { R with heap := #[] }))⟩
  case round =>
    obtain ⟨k, D, q, y, hk, rfl, rfl, rfl, ho⟩ := hrel
    by_cases hlt : k < m1
    · obtain ⟨bB, oB, rfl, hbB, hcB⟩ := hrB.open_ (by omega)
      have hck := hcB k hlt
      rw [List.getD_eq_getElem?_getD] at hck
      clear hcB
      have HS := Lib.hid (wmC_succ W k (by rw [HWl.out]; exact hlt))
      generalize W[k]?.getD 0 = t0 at *
      go_wp2_with (at_builtin; (refine wpl_app_cue R rfl _ _ rfl D k q (wmC W k) rfl ho ?_ ?_ _ 1 1 [(t0, 1, 0)] rfl (Rd3.one_ ?_ ?_ ?_ ?_) (Below.refl _ _) (by omega) ?_); (focus (repeat (first | exact Below.refl _ _ | assumption | refine bExt ?_ _ | refine bAlloc ?_ _ | refine bDrewN ?_ _ | refine bDrew ?_ | refine bSet ?_ (by first | exact Nat.le_refl _ | omega | (simp; done) | (simp; omega)) _))); (focus (repeat (first | exact Below.refl _ _ | assumption | refine bExt ?_ _ | refine bAlloc ?_ _ | refine bDrewN ?_ _ | refine bDrew ?_ | refine bSet ?_ (by first | exact Nat.le_refl _ | omega | (simp; done) | (simp; omega)) _))); (focus (simp [go_sem])); (focus (simp [go_sem])); (focus (simp [go_sem])); (focus (simp [go_sem])); intro D' q' y1 oD' hga hda)
      go_roundw
      case rel => exact ⟨k + 1, D', q', y1, by omega, by go_num, rfl, rfl, by rw [HS.out]; exact oD'⟩
      case measure => simp [intOf]; omega
    · obtain rfl : k = m1 := by omega
      have ho := ho
      rw [← HWl.out] at ho
      go_wp2
      go_loopw [8, 39] (fun v i wr => ∃ (k' : Nat) (D : Option Addr) (q : Nat) (y : World), k' ≤ n ∧ i = .int .i64 k' ∧ v = .slice D (k + 3 * k') q ∧ wr = ext R y ∧ Ow3 62 R.heap.size (ext R y) D (k + 3 * k') q (wmC W k ++ slC l S gap k')) (fun _ i _ => n - (intOf i).toNat)
      case atStart => exact ⟨0, D, q, y, by omega, rfl, by simp, rfl, by simpa [slC, HWl.out] using ho⟩
      case round =>
        clear ho
        obtain ⟨j, D, q, y, hj, rfl, rfl, rfl, ho⟩ := hrel
        by_cases hlt2 : j < n
        · obtain ⟨bA, oA, rfl, hbA, hcA⟩ := hrA.open_ (by omega)
          have hcj := hcA j hlt2
          rw [List.getD_eq_getElem?_getD] at hcj
          clear hcA
          obtain ⟨bL, oL, rfl, hbL, hm0, hm1⟩ := hlR.at_ j hlt2
          have b1 := hsb j hlt2
          have b2 := hmu j hlt2
          have HS := Lib.hid (slC_succ l S gap j)
          generalize S[j]?.getD 0 = s0 at *
          generalize (l[j]?.getD (0, 0)).1 = sk at *
          generalize (l[j]?.getD (0, 0)).2 = mu at *
          have hw1 : IntKind.i64.wrap (s0 + mu) = s0 + mu := IntWalk.i64_in _ (by omega)
          have hw2 : IntKind.i64.wrap (s0 + mu + gap) = s0 + mu + gap := IntWalk.i64_in _ (by omega)
          have hjI : (j : Int) < n := by omega
          go_wp2
          go_region_law (refine step_app_cue R rfl _ _ rfl D _ q (wmC W k ++ slC l S gap j) rfl ho ?_ ?_ _ 3 3 [(s0, 2, sk), (s0 + mu, 3, sk), (s0 + mu + gap, 4, sk)] rfl (Rd3.three_ ?_ ?_ ?_ ?_ ?_ ?_ ?_ ?_ ?_ ?_) (Below.refl _ _) (by omega) ?_; (focus (repeat (first | exact Below.refl _ _ | assumption | refine bExt ?_ _ | refine bAlloc ?_ _ | refine bDrewN ?_ _ | refine bDrew ?_ | refine bSet ?_ (by first | exact Nat.le_refl _ | omega | (simp; done) | (simp; omega)) _))); (focus (repeat (first | exact Below.refl _ _ | assumption | refine bExt ?_ _ | refine bAlloc ?_ _ | refine bDrewN ?_ _ | refine bDrew ?_ | refine bSet ?_ (by first | exact Nat.le_refl _ | omega | (simp; done) | (simp; omega)) _))); (focus (simp [go_sem])); (focus (simp [go_sem])); (focus (simp [go_sem])); (focus (simp [go_sem])); (focus (simp [go_sem])); (focus (simp [go_sem])); (focus (simp [go_sem])); (focus (simp [go_sem])); (focus (simp [go_sem])); (focus (simp [go_sem])); intro D' q' y1 oD' hga hda)
          all_goals
            go_wp2
            have o5 := oD'
            rw [List.append_assoc, ← HS.out] at o5
            have hln : k + 3 * j + 3 = k + 3 * (j + 1) := by omega
            rw [hln] at o5
            have Hln := Lib.hid hln
            clear hln oD' hga hda
            go_roundw
            case rel => exact ⟨j + 1, D', q', y1, by omega, by go_num, congrArg (fun s => Value.slice D' s q') (by have := Hln.out; omega), rfl, o5⟩
            case measure => simp [intOf]; omega
        · obtain rfl : j = n := by omega
          have ho := ho
          rw [← HA.out] at ho
          have HAl := Lib.hid (fun x hx => hAok x hx)
          have hN := ho.len
          generalize k + 3 * j = N at *
          have hNb : N ≤ 160 := by rw [← hN]; exact hAlen
          have hrAL := ho.rd
          have HBW0 := Lib.hid (HBR.out.trans ((ext_below R y).mono HBR.out.size))
          have HNl := Lib.hid hN
          clear hN ho
          generalize ext R y = W0 at *
          go_wp2
          go_loopw [14, 81] (fun v i wr => ∃ (i' : Nat) (T : List T3) (E : Option Addr) (q' : Nat) (y' : World), i' ≤ N ∧ i = .int .i64 i' ∧ v = .slice E i' q' ∧ wr = ext W0 y' ∧ Ow3 62 W0.heap.size (ext W0 y') E i' q' T ∧ Hid (Srt cKey T) ∧ Hid (SF cKey T (AL.take i')) ∧ (i' = 0 → E = none ∧ q' = 0)) (fun _ i _ => N - (intOf i).toNat)
          case atStart => exact ⟨0, [], none, 0, _, by omega, rfl, rfl, ext_self W0, Ow3.nil_, Srt.nil, SF.refl _, fun _ => ⟨rfl, rfl⟩⟩
          case round =>
            obtain ⟨i, T, E, q', y', hi, rfl, rfl, rfl, hoI, HS, HF, hz⟩ := hrel
            by_cases hlt3 : i < N
            · obtain ⟨bX, offX, rfl, hbX, hx0, hx1, hx2⟩ := hrAL.at_ i hlt3
              have HF2 := Lib.hid (show ∀ U, SF cKey U (T ++ [AL[i]?.getD z3]) → SF cKey U (AL.take (i + 1)) from fun U hU => by rw [take_succ_getD z3 AL i (by rw [HNl.out]; exact hlt3)]; exact hU.trans (HF.out.append (SF.refl _)))
              have HXo := Lib.hid (HAl.out _ (getD_mem z3 AL i (by rw [HNl.out]; exact hlt3)))
              generalize AL[i]?.getD z3 = x at *
              have HTl := Lib.hid hoI.len
              have hqq := Ow.cap_ hoI
              have HTo := Lib.hid (fun x (hx : x ∈ T) => HAl.out x (List.mem_of_mem_take (HF.out.mem hx)))
              have hi3 : (i : Int) < N := by omega
              go_wp2
              generalize hW2 : World.alloc (ext W0 y') _ = W2
              have hy1' : (ext W0 y').alloc (.cells #[.int .i64 x.1, .int .i64 x.2.1, .int .i64 x.2.2] 62) = W2 := hW2
              obtain ⟨y1, hy1⟩ := ext_ex (show Below W0.heap.size W0 W2 from by rw [← hy1']; repeat (first | exact Below.refl _ _ | assumption | refine bExt ?_ _ | refine bAlloc ?_ _ | refine bDrewN ?_ _ | refine bDrew ?_ | refine bSet ?_ (by first | exact Nat.le_refl _ | omega | (simp; done) | (simp; omega)) _))
              clear hW2
              rw [hy1] at hy1' ⊢
              clear hy1
              have HQ0 : Hid ((ext W0 y1).cell? ⟨(ext W0 y').heap.size, 0, none⟩ = some (.int .i64 x.1)) := by rw [← hy1']; show _ = _; simp [go_sem]
              have HQ1 : Hid ((ext W0 y1).cell? ⟨(ext W0 y').heap.size, 1, none⟩ = some (.int .i64 x.2.1)) := by rw [← hy1']; show _ = _; simp [go_sem]
              have HQ2 : Hid ((ext W0 y1).cell? ⟨(ext W0 y').heap.size, 2, none⟩ = some (.int .i64 x.2.2)) := by rw [← hy1']; show _ = _; simp [go_sem]
              have hgq : (ext W0 y').heap.size < (ext W0 y1).heap.size := by rw [← hy1']; simp
              have ho1 := hoI.below (bAlloc (Below.refl _ _) (.cells #[.int .i64 x.1, .int .i64 x.2.1, .int .i64 x.2.2] 62))
              rw [hy1'] at ho1
              clear hy1' hoI
              have HBW := Lib.hid (ext_below W0 y1)
              generalize (ext W0 y').heap.size = gq at *
              generalize ext W0 y1 = R1 at *
              go_loopw [17] (fun u ws => ∃ (s : Nat) (y2 : World), s ≤ i ∧ u = .int .i64 s ∧ ws = ext R1 y2 ∧ Ow3 62 W0.heap.size (ext R1 y2) E i q' T ∧ Hid (∀ e ∈ T.drop s, cKey x < cKey e)) (fun u _ => (intOf u).toNat)
              case atStart =>
                obtain ⟨y2, hy2⟩ : ∃ y2, R1 = ext R1 y2 := ⟨_, ext_self R1⟩
                exact ⟨i, y2, Nat.le_refl _, rfl, hy2, by rw [← hy2]; exact ho1, fun e he => by rw [List.drop_of_length_le (by rw [HTl.out]; exact Nat.le_refl _)] at he; simp at he⟩
              case round =>
                clear ho1
                obtain ⟨s, y2, hs, rfl, rfl, oj, HG⟩ := hrel
                have cq0 : (ext R1 y2).cell? ⟨gq, 0, none⟩ = some (.int .i64 x.1) := by rw [ext_cell _ _ _ _ _ hgq]; exact HQ0.out
                have cq1 : (ext R1 y2).cell? ⟨gq, 1, none⟩ = some (.int .i64 x.2.1) := by rw [ext_cell _ _ _ _ _ hgq]; exact HQ1.out
                have cq2 : (ext R1 y2).cell? ⟨gq, 2, none⟩ = some (.int .i64 x.2.2) := by rw [ext_cell _ _ _ _ _ hgq]; exact HQ2.out
                rcases Nat.eq_zero_or_pos s with hs0 | hs0
                · subst hs0
                  have HIN := Lib.hid (Srt.insert (key := cKey) (x := x) (p := T.take 0) (s := T.drop 0) (by rw [List.take_append_drop]; exact HS.out) (fun y hy => by simp at hy) HG.out)
                  have hd0 : ((0 : Nat) : Int) ≤ q' := by omega
                  go_wp2
                  go_quiet (fail)
                  obtain ⟨y3, hy3⟩ := ext_ex (show Below R1.heap.size R1 ((ext R1 y2).drewN nq) from by repeat (first | exact Below.refl _ _ | assumption | refine bExt ?_ _ | refine bAlloc ?_ _ | refine bDrewN ?_ _ | refine bDrew ?_ | refine bSet ?_ (by first | exact Nat.le_refl _ | omega | (simp; done) | (simp; omega)) _))
                  have oj2 := oj.below (bDrewN (Below.refl _ _) nq)
                  rw [hy3] at oj2 ⊢
                  clear hy3 oj
                  have hrd := oj2.rd
                  clear cq0 cq1 cq2
                  have cr0 : (ext R1 y3).cell? ⟨gq, 0, none⟩ = some (.int .i64 x.1) := by rw [ext_cell _ _ _ _ _ hgq]; exact HQ0.out
                  have cr1 : (ext R1 y3).cell? ⟨gq, 1, none⟩ = some (.int .i64 x.2.1) := by rw [ext_cell _ _ _ _ _ hgq]; exact HQ1.out
                  have cr2 : (ext R1 y3).cell? ⟨gq, 2, none⟩ = some (.int .i64 x.2.2) := by rw [ext_cell _ _ _ _ _ hgq]; exact HQ2.out
                  by_cases hi0 : i = 0
                  · obtain ⟨rfl, rfl⟩ := hz hi0
                    subst hi0
                    clear hz
                    have hr1 : Rd3 (ext R1 y3) none 0 (T.take 0) := hrd.take_ 0 (Nat.le_refl _)
                    have hr2 : Rd3 (ext R1 y3) none 0 (T.drop 0) := hrd
                    have o0a := OwC.lit_ (Below.refl _ (ext R1 y3)) [] (by simp [maxLen]) #[] rfl
                    have o0b : Ow3 62 (ext R1 y3).heap.size (((ext R1 y3).alloc (.cells #[.int .i64 x.1, .int .i64 x.2.1, .int .i64 x.2.2] 62)).alloc (.cells #[] 62)) (some ⟨(ext R1 y3).heap.size + 1, 0, none⟩) 0 0 [] := by simpa using OwC.lit_ (bAlloc (Below.refl _ (ext R1 y3)) (.cells #[.int .i64 x.1, .int .i64 x.2.1, .int .i64 x.2.2] 62)) [] (by simp [maxLen]) #[] rfl
                    go_wp2
                    go_region_law (first
                      | (refine step_app_cue (ext R1 y3) rfl _ _ rfl _ _ _ [] rfl o0a ?_ ?_ _ _ _ (T.take (0)) rfl hr1 ?_ (by omega) ?_; (focus (repeat (first | exact Below.refl _ _ | assumption | refine bExt ?_ _ | refine bAlloc ?_ _ | refine bDrewN ?_ _ | refine bDrew ?_ | refine bSet ?_ (by first | exact Nat.le_refl _ | omega | (simp; done) | (simp; omega)) _))); (focus (repeat (first | exact Below.refl _ _ | assumption | refine bExt ?_ _ | refine bAlloc ?_ _ | refine bDrewN ?_ _ | refine bDrew ?_ | refine bSet ?_ (by first | exact Nat.le_refl _ | omega | (simp; done) | (simp; omega)) _))); (focus (repeat (first | exact Below.refl _ _ | assumption | refine bExt ?_ _ | refine bAlloc ?_ _ | refine bDrewN ?_ _ | refine bDrew ?_ | refine bSet ?_ (by first | exact Nat.le_refl _ | omega | (simp; done) | (simp; omega)) _))); intro A1 c1 y4 o1 hg1 hd1; rw [Nat.zero_add] at o1)
                      | (refine step_app_cue (ext R1 y3) rfl _ _ rfl _ _ _ [] rfl o0b ?_ ?_ _ _ _ (T.take (0)) rfl hr1 ?_ (by omega) ?_; (focus (repeat (first | exact Below.refl _ _ | assumption | refine bExt ?_ _ | refine bAlloc ?_ _ | refine bDrewN ?_ _ | refine bDrew ?_ | refine bSet ?_ (by first | exact Nat.le_refl _ | omega | (simp; done) | (simp; omega)) _))); (focus (repeat (first | exact Below.refl _ _ | assumption | refine bExt ?_ _ | refine bAlloc ?_ _ | refine bDrewN ?_ _ | refine bDrew ?_ | refine bSet ?_ (by first | exact Nat.le_refl _ | omega | (simp; done) | (simp; omega)) _))); (focus (repeat (first | exact Below.refl _ _ | assumption | refine bExt ?_ _ | refine bAlloc ?_ _ | refine bDrewN ?_ _ | refine bDrew ?_ | refine bSet ?_ (by first | exact Nat.le_refl _ | omega | (simp; done) | (simp; omega)) _))); intro A1 c1 y4 o1 hg1 hd1; rw [Nat.zero_add] at o1)
                      | (refine step_app_cue (ext R1 y3) rfl _ _ rfl A1 _ c1 ([] ++ T.take (0)) rfl o1 ?_ ?_ _ 1 1 [x] rfl (Rd3.one_ ?_ ?_ ?_ ?_) (Below.refl _ _) (by omega) ?_; (focus (repeat (first | exact Below.refl _ _ | assumption | refine bExt ?_ _ | refine bAlloc ?_ _ | refine bDrewN ?_ _ | refine bDrew ?_ | refine bSet ?_ (by first | exact Nat.le_refl _ | omega | (simp; done) | (simp; omega)) _))); (focus (repeat (first | exact Below.refl _ _ | assumption | refine bExt ?_ _ | refine bAlloc ?_ _ | refine bDrewN ?_ _ | refine bDrew ?_ | refine bSet ?_ (by first | exact Nat.le_refl _ | omega | (simp; done) | (simp; omega)) _))); (focus (simp [go_sem]; done)); (focus (simp [go_sem]; done)); (focus (simp [go_sem]; done)); (focus (simp [go_sem]; done)); intro A2 c2 y5 o2 hg2 hd2)
                      | (refine step_app_cue (ext R1 y3) rfl _ _ rfl A1 _ c1 ([] ++ T.take (0)) rfl o1 ?_ ?_ _ 1 1 [x] rfl (Rd3.one_ ?_ ?_ ?_ ?_) (Below.refl _ _) (by omega) ?_; (focus (repeat (first | exact Below.refl _ _ | assumption | refine bExt ?_ _ | refine bAlloc ?_ _ | refine bDrewN ?_ _ | refine bDrew ?_ | refine bSet ?_ (by first | exact Nat.le_refl _ | omega | (simp; done) | (simp; omega)) _))); (focus (repeat (first | exact Below.refl _ _ | assumption | refine bExt ?_ _ | refine bAlloc ?_ _ | refine bDrewN ?_ _ | refine bDrew ?_ | refine bSet ?_ (by first | exact Nat.le_refl _ | omega | (simp; done) | (simp; omega)) _))); (focus (first | (simp; done) | (have := hg1.size; simp at this ⊢; omega))); (focus (rw [grown_cell hg1 (by first | (simp; done) | (simp; omega)) (by simp [blkOf])]; simp [go_sem]; done)); (focus (rw [grown_cell hg1 (by first | (simp; done) | (simp; omega)) (by simp [blkOf])]; simp [go_sem]; done)); (focus (rw [grown_cell hg1 (by first | (simp; done) | (simp; omega)) (by simp [blkOf])]; simp [go_sem]; done)); intro A2 c2 y5 o2 hg2 hd2)
                      | (refine step_app_cue (ext R1 y3) rfl _ _ rfl A2 _ c2 ([] ++ T.take (0) ++ [x]) rfl o2 ?_ ?_ _ _ _ (T.drop (0)) rfl hr2 ?_ (by omega) ?_; (focus (repeat (first | exact Below.refl _ _ | assumption | refine bExt ?_ _ | refine bAlloc ?_ _ | refine bDrewN ?_ _ | refine bDrew ?_ | refine bSet ?_ (by first | exact Nat.le_refl _ | omega | (simp; done) | (simp; omega)) _))); (focus (repeat (first | exact Below.refl _ _ | assumption | refine bExt ?_ _ | refine bAlloc ?_ _ | refine bDrewN ?_ _ | refine bDrew ?_ | refine bSet ?_ (by first | exact Nat.le_refl _ | omega | (simp; done) | (simp; omega)) _))); (focus (repeat (first | exact Below.refl _ _ | assumption | refine bExt ?_ _ | refine bAlloc ?_ _ | refine bDrewN ?_ _ | refine bDrew ?_ | refine bSet ?_ (by first | exact Nat.le_refl _ | omega | (simp; done) | (simp; omega)) _))); intro A3 c3 y6 o3 hg3 hd3))
                    all_goals
                      go_wp2
                      obtain ⟨q3, hq⟩ := ext_ex (show Below W0.heap.size W0 (ext (ext R1 y3) y6) from HBW.out.trans ((show Below R1.heap.size R1 _ from by repeat (first | exact Below.refl _ _ | assumption | refine bExt ?_ _ | refine bAlloc ?_ _ | refine bDrewN ?_ _ | refine bDrew ?_ | refine bSet ?_ (by first | exact Nat.le_refl _ | omega | (simp; done) | (simp; omega)) _)).mono HBW.out.size))
                      have o4 := o3.mono (Nat.le_trans HBW.out.size (ext_le R1 y3))
                      rw [show [] ++ T.take (0) ++ [x] ++ T.drop (0) = T.take (0) ++ x :: T.drop (0) by simp, hq] at o4
                      have hln := o4.len.symm.trans (show (T.take (0) ++ x :: T.drop (0)).length = 0 + 1 by have h1 := congrArg List.length (List.take_append_drop (0) T); simp only [List.length_append, List.length_cons] at h1 ⊢; have := HTl.out; omega)
                      rw [hln] at o4
                      have o5 := o4
                      have Hln := Lib.hid hln
                      clear hln o4 o3 hg3 hd3 hg2 hd2 hg1 hd1 o1 o2
                      go_roundw
                      case rel => exact ⟨0 + 1, _, A3, c3, q3, by omega, by go_num, congrArg (fun s => Value.slice A3 s c3) (by have := Hln.out; omega), hq, o5, HIN.out.1, HF2.out _ (by have := HIN.out.2; rw [List.take_append_drop] at this; exact this), fun h => by omega⟩
                      case measure => simp [intOf]; omega
                  · obtain ⟨g, rfl, hgb, hgl2⟩ := oj2.form_ (by omega)
                    clear hz
                    have hr1 := hrd.take_ 0 (by omega)
                    have hr2 := hrd.drop_ 0 (by omega)
                    have o0a := OwC.lit_ (Below.refl _ (ext R1 y3)) [] (by simp [maxLen]) #[] rfl
                    have o0b : Ow3 62 (ext R1 y3).heap.size (((ext R1 y3).alloc (.cells #[.int .i64 x.1, .int .i64 x.2.1, .int .i64 x.2.2] 62)).alloc (.cells #[] 62)) (some ⟨(ext R1 y3).heap.size + 1, 0, none⟩) 0 0 [] := by simpa using OwC.lit_ (bAlloc (Below.refl _ (ext R1 y3)) (.cells #[.int .i64 x.1, .int .i64 x.2.1, .int .i64 x.2.2] 62)) [] (by simp [maxLen]) #[] rfl
                    go_wp2
                    go_region_law (first
                      | (refine step_app_cue (ext R1 y3) rfl _ _ rfl _ _ _ [] rfl o0a ?_ ?_ _ _ _ (T.take (0)) rfl hr1 ?_ (by omega) ?_; (focus (repeat (first | exact Below.refl _ _ | assumption | refine bExt ?_ _ | refine bAlloc ?_ _ | refine bDrewN ?_ _ | refine bDrew ?_ | refine bSet ?_ (by first | exact Nat.le_refl _ | omega | (simp; done) | (simp; omega)) _))); (focus (repeat (first | exact Below.refl _ _ | assumption | refine bExt ?_ _ | refine bAlloc ?_ _ | refine bDrewN ?_ _ | refine bDrew ?_ | refine bSet ?_ (by first | exact Nat.le_refl _ | omega | (simp; done) | (simp; omega)) _))); (focus (repeat (first | exact Below.refl _ _ | assumption | refine bExt ?_ _ | refine bAlloc ?_ _ | refine bDrewN ?_ _ | refine bDrew ?_ | refine bSet ?_ (by first | exact Nat.le_refl _ | omega | (simp; done) | (simp; omega)) _))); intro A1 c1 y4 o1 hg1 hd1; rw [Nat.zero_add] at o1)
                      | (refine step_app_cue (ext R1 y3) rfl _ _ rfl _ _ _ [] rfl o0b ?_ ?_ _ _ _ (T.take (0)) rfl hr1 ?_ (by omega) ?_; (focus (repeat (first | exact Below.refl _ _ | assumption | refine bExt ?_ _ | refine bAlloc ?_ _ | refine bDrewN ?_ _ | refine bDrew ?_ | refine bSet ?_ (by first | exact Nat.le_refl _ | omega | (simp; done) | (simp; omega)) _))); (focus (repeat (first | exact Below.refl _ _ | assumption | refine bExt ?_ _ | refine bAlloc ?_ _ | refine bDrewN ?_ _ | refine bDrew ?_ | refine bSet ?_ (by first | exact Nat.le_refl _ | omega | (simp; done) | (simp; omega)) _))); (focus (repeat (first | exact Below.refl _ _ | assumption | refine bExt ?_ _ | refine bAlloc ?_ _ | refine bDrewN ?_ _ | refine bDrew ?_ | refine bSet ?_ (by first | exact Nat.le_refl _ | omega | (simp; done) | (simp; omega)) _))); intro A1 c1 y4 o1 hg1 hd1; rw [Nat.zero_add] at o1)
                      | (refine step_app_cue (ext R1 y3) rfl _ _ rfl A1 _ c1 ([] ++ T.take (0)) rfl o1 ?_ ?_ _ 1 1 [x] rfl (Rd3.one_ ?_ ?_ ?_ ?_) (Below.refl _ _) (by omega) ?_; (focus (repeat (first | exact Below.refl _ _ | assumption | refine bExt ?_ _ | refine bAlloc ?_ _ | refine bDrewN ?_ _ | refine bDrew ?_ | refine bSet ?_ (by first | exact Nat.le_refl _ | omega | (simp; done) | (simp; omega)) _))); (focus (repeat (first | exact Below.refl _ _ | assumption | refine bExt ?_ _ | refine bAlloc ?_ _ | refine bDrewN ?_ _ | refine bDrew ?_ | refine bSet ?_ (by first | exact Nat.le_refl _ | omega | (simp; done) | (simp; omega)) _))); (focus (simp [go_sem]; done)); (focus (simp [go_sem]; done)); (focus (simp [go_sem]; done)); (focus (simp [go_sem]; done)); intro A2 c2 y5 o2 hg2 hd2)
                      | (refine step_app_cue (ext R1 y3) rfl _ _ rfl A1 _ c1 ([] ++ T.take (0)) rfl o1 ?_ ?_ _ 1 1 [x] rfl (Rd3.one_ ?_ ?_ ?_ ?_) (Below.refl _ _) (by omega) ?_; (focus (repeat (first | exact Below.refl _ _ | assumption | refine bExt ?_ _ | refine bAlloc ?_ _ | refine bDrewN ?_ _ | refine bDrew ?_ | refine bSet ?_ (by first | exact Nat.le_refl _ | omega | (simp; done) | (simp; omega)) _))); (focus (repeat (first | exact Below.refl _ _ | assumption | refine bExt ?_ _ | refine bAlloc ?_ _ | refine bDrewN ?_ _ | refine bDrew ?_ | refine bSet ?_ (by first | exact Nat.le_refl _ | omega | (simp; done) | (simp; omega)) _))); (focus (first | (simp; done) | (have := hg1.size; simp at this ⊢; omega))); (focus (rw [grown_cell hg1 (by first | (simp; done) | (simp; omega)) (by simp [blkOf])]; simp [go_sem]; done)); (focus (rw [grown_cell hg1 (by first | (simp; done) | (simp; omega)) (by simp [blkOf])]; simp [go_sem]; done)); (focus (rw [grown_cell hg1 (by first | (simp; done) | (simp; omega)) (by simp [blkOf])]; simp [go_sem]; done)); intro A2 c2 y5 o2 hg2 hd2)
                      | (refine step_app_cue (ext R1 y3) rfl _ _ rfl A2 _ c2 ([] ++ T.take (0) ++ [x]) rfl o2 ?_ ?_ _ _ _ (T.drop (0)) rfl hr2 ?_ (by omega) ?_; (focus (repeat (first | exact Below.refl _ _ | assumption | refine bExt ?_ _ | refine bAlloc ?_ _ | refine bDrewN ?_ _ | refine bDrew ?_ | refine bSet ?_ (by first | exact Nat.le_refl _ | omega | (simp; done) | (simp; omega)) _))); (focus (repeat (first | exact Below.refl _ _ | assumption | refine bExt ?_ _ | refine bAlloc ?_ _ | refine bDrewN ?_ _ | refine bDrew ?_ | refine bSet ?_ (by first | exact Nat.le_refl _ | omega | (simp; done) | (simp; omega)) _))); (focus (repeat (first | exact Below.refl _ _ | assumption | refine bExt ?_ _ | refine bAlloc ?_ _ | refine bDrewN ?_ _ | refine bDrew ?_ | refine bSet ?_ (by first | exact Nat.le_refl _ | omega | (simp; done) | (simp; omega)) _))); intro A3 c3 y6 o3 hg3 hd3))
                    all_goals
                      go_wp2
                      obtain ⟨q3, hq⟩ := ext_ex (show Below W0.heap.size W0 (ext (ext R1 y3) y6) from HBW.out.trans ((show Below R1.heap.size R1 _ from by repeat (first | exact Below.refl _ _ | assumption | refine bExt ?_ _ | refine bAlloc ?_ _ | refine bDrewN ?_ _ | refine bDrew ?_ | refine bSet ?_ (by first | exact Nat.le_refl _ | omega | (simp; done) | (simp; omega)) _)).mono HBW.out.size))
                      have o4 := o3.mono (Nat.le_trans HBW.out.size (ext_le R1 y3))
                      rw [show [] ++ T.take (0) ++ [x] ++ T.drop (0) = T.take (0) ++ x :: T.drop (0) by simp, hq] at o4
                      have hln := o4.len.symm.trans (show (T.take (0) ++ x :: T.drop (0)).length = i + 1 by have h1 := congrArg List.length (List.take_append_drop (0) T); simp only [List.length_append, List.length_cons] at h1 ⊢; have := HTl.out; omega)
                      rw [hln] at o4
                      have o5 := o4
                      have Hln := Lib.hid hln
                      clear hln o4 o3 hg3 hd3 hg2 hd2 hg1 hd1 o1 o2
                      go_roundw
                      case rel => exact ⟨i + 1, _, A3, c3, q3, by omega, by go_num, congrArg (fun s => Value.slice A3 s c3) (by have := Hln.out; omega), hq, o5, HIN.out.1, HF2.out _ (by have := HIN.out.2; rw [List.take_append_drop] at this; exact this), fun h => by omega⟩
                      case measure => simp [intOf]; omega
                · obtain ⟨s, rfl⟩ : ∃ u, s = u + 1 := ⟨s - 1, by omega⟩
                  obtain ⟨g, rfl, hgb, hgl2⟩ := oj.form_ (by omega)
                  clear hz
                  obtain ⟨cj0, cj1, cj2⟩ := oj.cell_ s (by omega)
                  have HYo := Lib.hid (HTo.out _ (getD_mem z3 T s (by rw [HTl.out]; omega)))
                  have HUp := Lib.hid (HS.out.uptoC (q := s) (by rw [HTl.out]; omega))
                  have HFr := Lib.hid (HS.out.fromC (q := s) (by rw [HTl.out]; omega))
                  generalize T[s]?.getD z3 = e0 at *
                  have hsI : (s : Int) < i := by omega
                  have hs1 : (0 : Int) ≤ (s : Int) + 1 := by omega
                  have hs2 : IntKind.i64.wrap ((s : Int) + 1 - 1) = s := by rw [IntWalk.i64_in _ (by omega)]; omega
                  have hs3 : IntKind.i64.wrap (s : Int) = s := IntWalk.i64_in _ (by omega)
                  have cB := fun w' => srBefore_any w' x e0 HXo.out HYo.out
                  by_cases hlt4 : cKey x < cKey e0
                  · have HGn := Lib.hid (show ∀ e ∈ T.drop s, cKey x < cKey e from fun e he => by have h1 := HFr.out e he; omega)
                    simp only [decide_eq_true hlt4] at cB
                    go_wp2
                    go_still_tail 9, (by kernel_rfl)
                    change wpList _ _ _ _ _ (World.drew _)
                    go_wp2_with ((go_at_call 105; ((with_reducible refine (cB _).mono ?_); rintro e w' ⟨rfl, xq, rfl⟩)))
                    obtain ⟨y3, hy3⟩ := ext_ex (show Below R1.heap.size R1 (ext (ext R1 y2).drew xq) from by repeat (first | exact Below.refl _ _ | assumption | refine bExt ?_ _ | refine bAlloc ?_ _ | refine bDrewN ?_ _ | refine bDrew ?_ | refine bSet ?_ (by first | exact Nat.le_refl _ | omega | (simp; done) | (simp; omega)) _))
                    have oj2 := oj.after xq
                    rw [hy3] at oj2
                    go_roundw
                    case rel => first | exact ⟨s, y3, by omega, by go_num, hy3, oj2, HGn⟩ | ((repeat apply Exists.intro); exact ⟨⟨s, y3, by omega, by go_num, hy3, oj2, HGn⟩, rfl⟩)
                    case measure => simp [intOf]
                  · have HIN := Lib.hid (Srt.insert (key := cKey) (x := x) (p := T.take (s + 1)) (s := T.drop (s + 1)) (by rw [List.take_append_drop]; exact HS.out) (fun e he => by have h1 := HUp.out e he; omega) HG.out)
                    simp only [decide_eq_false hlt4] at cB
                    have hd1 : (s : Int) + 1 ≤ q' := by omega
                    have hk1 : (s : Int) + 1 ≤ i := by omega
                    by_cases hjd : q' = s + 1
                    · have hjk : i = s + 1 := by omega
                      subst hjk
                      subst hjd
                      have hsI2 : (s : Int) < (s : Int) + 1 := by omega
                      go_wp2
                      go_still_tail 9, (by kernel_rfl)
                      change wpList _ _ _ _ _ (World.drew _)
                      go_wp2_with ((go_at_call 105; ((with_reducible refine (cB _).mono ?_); rintro e w' ⟨rfl, xq, rfl⟩)))
                      obtain ⟨y3, hy3⟩ := ext_ex (show Below R1.heap.size R1 (ext (ext R1 y2).drew xq) from by repeat (first | exact Below.refl _ _ | assumption | refine bExt ?_ _ | refine bAlloc ?_ _ | refine bDrewN ?_ _ | refine bDrew ?_ | refine bSet ?_ (by first | exact Nat.le_refl _ | omega | (simp; done) | (simp; omega)) _))
                      have oj2 := oj.below (bExt (bDrew (Below.refl _ _)) xq)
                      rw [hy3] at oj2 ⊢
                      clear hy3 oj
                      have hrd := oj2.rd
                      clear cq0 cq1 cq2
                      have cr0 : (ext R1 y3).cell? ⟨gq, 0, none⟩ = some (.int .i64 x.1) := by rw [ext_cell _ _ _ _ _ hgq]; exact HQ0.out
                      have cr1 : (ext R1 y3).cell? ⟨gq, 1, none⟩ = some (.int .i64 x.2.1) := by rw [ext_cell _ _ _ _ _ hgq]; exact HQ1.out
                      have cr2 : (ext R1 y3).cell? ⟨gq, 2, none⟩ = some (.int .i64 x.2.2) := by rw [ext_cell _ _ _ _ _ hgq]; exact HQ2.out
                      have hr1 := hrd.take_ (s + 1) (by omega)
                      have hr2 : Rd3 (ext R1 y3) (some ⟨g, 0, none⟩) 0 (T.drop (s + 1)) := by rw [List.drop_of_length_le (by rw [HTl.out]; exact Nat.le_refl _)]; exact Rd3.nil_
                      have o0a := OwC.lit_ (Below.refl _ (ext R1 y3)) [] (by simp [maxLen]) #[] rfl
                      have o0b : Ow3 62 (ext R1 y3).heap.size (((ext R1 y3).alloc (.cells #[.int .i64 x.1, .int .i64 x.2.1, .int .i64 x.2.2] 62)).alloc (.cells #[] 62)) (some ⟨(ext R1 y3).heap.size + 1, 0, none⟩) 0 0 [] := by simpa using OwC.lit_ (bAlloc (Below.refl _ (ext R1 y3)) (.cells #[.int .i64 x.1, .int .i64 x.2.1, .int .i64 x.2.2] 62)) [] (by simp [maxLen]) #[] rfl
                      go_wp2
                      go_region_law (first
                        | (refine step_app_cue (ext R1 y3) rfl _ _ rfl _ _ _ [] rfl o0a ?_ ?_ _ _ _ (T.take (s + 1)) rfl hr1 ?_ (by omega) ?_; (focus (repeat (first | exact Below.refl _ _ | assumption | refine bExt ?_ _ | refine bAlloc ?_ _ | refine bDrewN ?_ _ | refine bDrew ?_ | refine bSet ?_ (by first | exact Nat.le_refl _ | omega | (simp; done) | (simp; omega)) _))); (focus (repeat (first | exact Below.refl _ _ | assumption | refine bExt ?_ _ | refine bAlloc ?_ _ | refine bDrewN ?_ _ | refine bDrew ?_ | refine bSet ?_ (by first | exact Nat.le_refl _ | omega | (simp; done) | (simp; omega)) _))); (focus (repeat (first | exact Below.refl _ _ | assumption | refine bExt ?_ _ | refine bAlloc ?_ _ | refine bDrewN ?_ _ | refine bDrew ?_ | refine bSet ?_ (by first | exact Nat.le_refl _ | omega | (simp; done) | (simp; omega)) _))); intro A1 c1 y4 o1 hg1 hd1; rw [Nat.zero_add] at o1)
                        | (refine step_app_cue (ext R1 y3) rfl _ _ rfl _ _ _ [] rfl o0b ?_ ?_ _ _ _ (T.take (s + 1)) rfl hr1 ?_ (by omega) ?_; (focus (repeat (first | exact Below.refl _ _ | assumption | refine bExt ?_ _ | refine bAlloc ?_ _ | refine bDrewN ?_ _ | refine bDrew ?_ | refine bSet ?_ (by first | exact Nat.le_refl _ | omega | (simp; done) | (simp; omega)) _))); (focus (repeat (first | exact Below.refl _ _ | assumption | refine bExt ?_ _ | refine bAlloc ?_ _ | refine bDrewN ?_ _ | refine bDrew ?_ | refine bSet ?_ (by first | exact Nat.le_refl _ | omega | (simp; done) | (simp; omega)) _))); (focus (repeat (first | exact Below.refl _ _ | assumption | refine bExt ?_ _ | refine bAlloc ?_ _ | refine bDrewN ?_ _ | refine bDrew ?_ | refine bSet ?_ (by first | exact Nat.le_refl _ | omega | (simp; done) | (simp; omega)) _))); intro A1 c1 y4 o1 hg1 hd1; rw [Nat.zero_add] at o1)
                        | (refine step_app_cue (ext R1 y3) rfl _ _ rfl A1 _ c1 ([] ++ T.take (s + 1)) rfl o1 ?_ ?_ _ 1 1 [x] rfl (Rd3.one_ ?_ ?_ ?_ ?_) (Below.refl _ _) (by omega) ?_; (focus (repeat (first | exact Below.refl _ _ | assumption | refine bExt ?_ _ | refine bAlloc ?_ _ | refine bDrewN ?_ _ | refine bDrew ?_ | refine bSet ?_ (by first | exact Nat.le_refl _ | omega | (simp; done) | (simp; omega)) _))); (focus (repeat (first | exact Below.refl _ _ | assumption | refine bExt ?_ _ | refine bAlloc ?_ _ | refine bDrewN ?_ _ | refine bDrew ?_ | refine bSet ?_ (by first | exact Nat.le_refl _ | omega | (simp; done) | (simp; omega)) _))); (focus (simp [go_sem]; done)); (focus (simp [go_sem]; done)); (focus (simp [go_sem]; done)); (focus (simp [go_sem]; done)); intro A2 c2 y5 o2 hg2 hd2)
                        | (refine step_app_cue (ext R1 y3) rfl _ _ rfl A1 _ c1 ([] ++ T.take (s + 1)) rfl o1 ?_ ?_ _ 1 1 [x] rfl (Rd3.one_ ?_ ?_ ?_ ?_) (Below.refl _ _) (by omega) ?_; (focus (repeat (first | exact Below.refl _ _ | assumption | refine bExt ?_ _ | refine bAlloc ?_ _ | refine bDrewN ?_ _ | refine bDrew ?_ | refine bSet ?_ (by first | exact Nat.le_refl _ | omega | (simp; done) | (simp; omega)) _))); (focus (repeat (first | exact Below.refl _ _ | assumption | refine bExt ?_ _ | refine bAlloc ?_ _ | refine bDrewN ?_ _ | refine bDrew ?_ | refine bSet ?_ (by first | exact Nat.le_refl _ | omega | (simp; done) | (simp; omega)) _))); (focus (first | (simp; done) | (have := hg1.size; simp at this ⊢; omega))); (focus (rw [grown_cell hg1 (by first | (simp; done) | (simp; omega)) (by simp [blkOf])]; simp [go_sem]; done)); (focus (rw [grown_cell hg1 (by first | (simp; done) | (simp; omega)) (by simp [blkOf])]; simp [go_sem]; done)); (focus (rw [grown_cell hg1 (by first | (simp; done) | (simp; omega)) (by simp [blkOf])]; simp [go_sem]; done)); intro A2 c2 y5 o2 hg2 hd2)
                        | (refine step_app_cue (ext R1 y3) rfl _ _ rfl A2 _ c2 ([] ++ T.take (s + 1) ++ [x]) rfl o2 ?_ ?_ _ _ _ (T.drop (s + 1)) rfl hr2 ?_ (by omega) ?_; (focus (repeat (first | exact Below.refl _ _ | assumption | refine bExt ?_ _ | refine bAlloc ?_ _ | refine bDrewN ?_ _ | refine bDrew ?_ | refine bSet ?_ (by first | exact Nat.le_refl _ | omega | (simp; done) | (simp; omega)) _))); (focus (repeat (first | exact Below.refl _ _ | assumption | refine bExt ?_ _ | refine bAlloc ?_ _ | refine bDrewN ?_ _ | refine bDrew ?_ | refine bSet ?_ (by first | exact Nat.le_refl _ | omega | (simp; done) | (simp; omega)) _))); (focus (repeat (first | exact Below.refl _ _ | assumption | refine bExt ?_ _ | refine bAlloc ?_ _ | refine bDrewN ?_ _ | refine bDrew ?_ | refine bSet ?_ (by first | exact Nat.le_refl _ | omega | (simp; done) | (simp; omega)) _))); intro A3 c3 y6 o3 hg3 hd3))
                      all_goals
                        go_wp2
                        obtain ⟨q3, hq⟩ := ext_ex (show Below W0.heap.size W0 (ext (ext R1 y3) y6) from HBW.out.trans ((show Below R1.heap.size R1 _ from by repeat (first | exact Below.refl _ _ | assumption | refine bExt ?_ _ | refine bAlloc ?_ _ | refine bDrewN ?_ _ | refine bDrew ?_ | refine bSet ?_ (by first | exact Nat.le_refl _ | omega | (simp; done) | (simp; omega)) _)).mono HBW.out.size))
                        have o4 := o3.mono (Nat.le_trans HBW.out.size (ext_le R1 y3))
                        rw [show [] ++ T.take (s + 1) ++ [x] ++ T.drop (s + 1) = T.take (s + 1) ++ x :: T.drop (s + 1) by simp, hq] at o4
                        have hln := o4.len.symm.trans (show (T.take (s + 1) ++ x :: T.drop (s + 1)).length = (s + 1) + 1 by have h1 := congrArg List.length (List.take_append_drop (s + 1) T); simp only [List.length_append, List.length_cons] at h1 ⊢; have := HTl.out; omega)
                        rw [hln] at o4
                        have o5 := o4
                        have Hln := Lib.hid hln
                        clear hln o4 o3 hg3 hd3 hg2 hd2 hg1 hd1 o1 o2
                        go_roundw
                        case rel => exact ⟨(s + 1) + 1, _, A3, c3, q3, by omega, by go_num, congrArg (fun s => Value.slice A3 s c3) (by have := Hln.out; omega), hq, o5, HIN.out.1, HF2.out _ (by have := HIN.out.2; rw [List.take_append_drop] at this; exact this), fun h => by omega⟩
                        case measure => simp [intOf]; omega
                    · have hjd' : ¬ (q' : Int) = s + 1 := by omega
                      go_wp2
                      go_still_tail 9, (by kernel_rfl)
                      change wpList _ _ _ _ _ (World.drew _)
                      go_wp2_with ((go_at_call 105; ((with_reducible refine (cB _).mono ?_); rintro e w' ⟨rfl, xq, rfl⟩)))
                      obtain ⟨y3, hy3⟩ := ext_ex (show Below R1.heap.size R1 (ext (ext R1 y2).drew xq) from by repeat (first | exact Below.refl _ _ | assumption | refine bExt ?_ _ | refine bAlloc ?_ _ | refine bDrewN ?_ _ | refine bDrew ?_ | refine bSet ?_ (by first | exact Nat.le_refl _ | omega | (simp; done) | (simp; omega)) _))
                      have oj2 := oj.below (bExt (bDrew (Below.refl _ _)) xq)
                      rw [hy3] at oj2 ⊢
                      clear hy3 oj
                      have hrd := oj2.rd
                      clear cq0 cq1 cq2
                      have cr0 : (ext R1 y3).cell? ⟨gq, 0, none⟩ = some (.int .i64 x.1) := by rw [ext_cell _ _ _ _ _ hgq]; exact HQ0.out
                      have cr1 : (ext R1 y3).cell? ⟨gq, 1, none⟩ = some (.int .i64 x.2.1) := by rw [ext_cell _ _ _ _ _ hgq]; exact HQ1.out
                      have cr2 : (ext R1 y3).cell? ⟨gq, 2, none⟩ = some (.int .i64 x.2.2) := by rw [ext_cell _ _ _ _ _ hgq]; exact HQ2.out
                      have hr1 := hrd.take_ (s + 1) (by omega)
                      have hr2 := hrd.drop_ (s + 1) (by omega)
                      rw [Nat.zero_add] at hr2
                      have o0a := OwC.lit_ (Below.refl _ (ext R1 y3)) [] (by simp [maxLen]) #[] rfl
                      have o0b : Ow3 62 (ext R1 y3).heap.size (((ext R1 y3).alloc (.cells #[.int .i64 x.1, .int .i64 x.2.1, .int .i64 x.2.2] 62)).alloc (.cells #[] 62)) (some ⟨(ext R1 y3).heap.size + 1, 0, none⟩) 0 0 [] := by simpa using OwC.lit_ (bAlloc (Below.refl _ (ext R1 y3)) (.cells #[.int .i64 x.1, .int .i64 x.2.1, .int .i64 x.2.2] 62)) [] (by simp [maxLen]) #[] rfl
                      go_wp2
                      go_region_law (first
                        | (refine step_app_cue (ext R1 y3) rfl _ _ rfl _ _ _ [] rfl o0a ?_ ?_ _ _ _ (T.take (s + 1)) rfl hr1 ?_ (by omega) ?_; (focus (repeat (first | exact Below.refl _ _ | assumption | refine bExt ?_ _ | refine bAlloc ?_ _ | refine bDrewN ?_ _ | refine bDrew ?_ | refine bSet ?_ (by first | exact Nat.le_refl _ | omega | (simp; done) | (simp; omega)) _))); (focus (repeat (first | exact Below.refl _ _ | assumption | refine bExt ?_ _ | refine bAlloc ?_ _ | refine bDrewN ?_ _ | refine bDrew ?_ | refine bSet ?_ (by first | exact Nat.le_refl _ | omega | (simp; done) | (simp; omega)) _))); (focus (repeat (first | exact Below.refl _ _ | assumption | refine bExt ?_ _ | refine bAlloc ?_ _ | refine bDrewN ?_ _ | refine bDrew ?_ | refine bSet ?_ (by first | exact Nat.le_refl _ | omega | (simp; done) | (simp; omega)) _))); intro A1 c1 y4 o1 hg1 hd1; rw [Nat.zero_add] at o1)
                        | (refine step_app_cue (ext R1 y3) rfl _ _ rfl _ _ _ [] rfl o0b ?_ ?_ _ _ _ (T.take (s + 1)) rfl hr1 ?_ (by omega) ?_; (focus (repeat (first | exact Below.refl _ _ | assumption | refine bExt ?_ _ | refine bAlloc ?_ _ | refine bDrewN ?_ _ | refine bDrew ?_ | refine bSet ?_ (by first | exact Nat.le_refl _ | omega | (simp; done) | (simp; omega)) _))); (focus (repeat (first | exact Below.refl _ _ | assumption | refine bExt ?_ _ | refine bAlloc ?_ _ | refine bDrewN ?_ _ | refine bDrew ?_ | refine bSet ?_ (by first | exact Nat.le_refl _ | omega | (simp; done) | (simp; omega)) _))); (focus (repeat (first | exact Below.refl _ _ | assumption | refine bExt ?_ _ | refine bAlloc ?_ _ | refine bDrewN ?_ _ | refine bDrew ?_ | refine bSet ?_ (by first | exact Nat.le_refl _ | omega | (simp; done) | (simp; omega)) _))); intro A1 c1 y4 o1 hg1 hd1; rw [Nat.zero_add] at o1)
                        | (refine step_app_cue (ext R1 y3) rfl _ _ rfl A1 _ c1 ([] ++ T.take (s + 1)) rfl o1 ?_ ?_ _ 1 1 [x] rfl (Rd3.one_ ?_ ?_ ?_ ?_) (Below.refl _ _) (by omega) ?_; (focus (repeat (first | exact Below.refl _ _ | assumption | refine bExt ?_ _ | refine bAlloc ?_ _ | refine bDrewN ?_ _ | refine bDrew ?_ | refine bSet ?_ (by first | exact Nat.le_refl _ | omega | (simp; done) | (simp; omega)) _))); (focus (repeat (first | exact Below.refl _ _ | assumption | refine bExt ?_ _ | refine bAlloc ?_ _ | refine bDrewN ?_ _ | refine bDrew ?_ | refine bSet ?_ (by first | exact Nat.le_refl _ | omega | (simp; done) | (simp; omega)) _))); (focus (simp [go_sem]; done)); (focus (simp [go_sem]; done)); (focus (simp [go_sem]; done)); (focus (simp [go_sem]; done)); intro A2 c2 y5 o2 hg2 hd2)
                        | (refine step_app_cue (ext R1 y3) rfl _ _ rfl A1 _ c1 ([] ++ T.take (s + 1)) rfl o1 ?_ ?_ _ 1 1 [x] rfl (Rd3.one_ ?_ ?_ ?_ ?_) (Below.refl _ _) (by omega) ?_; (focus (repeat (first | exact Below.refl _ _ | assumption | refine bExt ?_ _ | refine bAlloc ?_ _ | refine bDrewN ?_ _ | refine bDrew ?_ | refine bSet ?_ (by first | exact Nat.le_refl _ | omega | (simp; done) | (simp; omega)) _))); (focus (repeat (first | exact Below.refl _ _ | assumption | refine bExt ?_ _ | refine bAlloc ?_ _ | refine bDrewN ?_ _ | refine bDrew ?_ | refine bSet ?_ (by first | exact Nat.le_refl _ | omega | (simp; done) | (simp; omega)) _))); (focus (first | (simp; done) | (have := hg1.size; simp at this ⊢; omega))); (focus (rw [grown_cell hg1 (by first | (simp; done) | (simp; omega)) (by simp [blkOf])]; simp [go_sem]; done)); (focus (rw [grown_cell hg1 (by first | (simp; done) | (simp; omega)) (by simp [blkOf])]; simp [go_sem]; done)); (focus (rw [grown_cell hg1 (by first | (simp; done) | (simp; omega)) (by simp [blkOf])]; simp [go_sem]; done)); intro A2 c2 y5 o2 hg2 hd2)
                        | (refine step_app_cue (ext R1 y3) rfl _ _ rfl A2 _ c2 ([] ++ T.take (s + 1) ++ [x]) rfl o2 ?_ ?_ _ _ _ (T.drop (s + 1)) rfl hr2 ?_ (by omega) ?_; (focus (repeat (first | exact Below.refl _ _ | assumption | refine bExt ?_ _ | refine bAlloc ?_ _ | refine bDrewN ?_ _ | refine bDrew ?_ | refine bSet ?_ (by first | exact Nat.le_refl _ | omega | (simp; done) | (simp; omega)) _))); (focus (repeat (first | exact Below.refl _ _ | assumption | refine bExt ?_ _ | refine bAlloc ?_ _ | refine bDrewN ?_ _ | refine bDrew ?_ | refine bSet ?_ (by first | exact Nat.le_refl _ | omega | (simp; done) | (simp; omega)) _))); (focus (repeat (first | exact Below.refl _ _ | assumption | refine bExt ?_ _ | refine bAlloc ?_ _ | refine bDrewN ?_ _ | refine bDrew ?_ | refine bSet ?_ (by first | exact Nat.le_refl _ | omega | (simp; done) | (simp; omega)) _))); intro A3 c3 y6 o3 hg3 hd3))
                      all_goals
                        go_wp2
                        obtain ⟨q3, hq⟩ := ext_ex (show Below W0.heap.size W0 (ext (ext R1 y3) y6) from HBW.out.trans ((show Below R1.heap.size R1 _ from by repeat (first | exact Below.refl _ _ | assumption | refine bExt ?_ _ | refine bAlloc ?_ _ | refine bDrewN ?_ _ | refine bDrew ?_ | refine bSet ?_ (by first | exact Nat.le_refl _ | omega | (simp; done) | (simp; omega)) _)).mono HBW.out.size))
                        have o4 := o3.mono (Nat.le_trans HBW.out.size (ext_le R1 y3))
                        rw [show [] ++ T.take (s + 1) ++ [x] ++ T.drop (s + 1) = T.take (s + 1) ++ x :: T.drop (s + 1) by simp, hq] at o4
                        have hln := o4.len.symm.trans (show (T.take (s + 1) ++ x :: T.drop (s + 1)).length = i + 1 by have h1 := congrArg List.length (List.take_append_drop (s + 1) T); simp only [List.length_append, List.length_cons] at h1 ⊢; have := HTl.out; omega)
                        rw [hln] at o4
                        have o5 := o4
                        have Hln := Lib.hid hln
                        clear hln o4 o3 hg3 hd3 hg2 hd2 hg1 hd1 o1 o2
                        go_roundw
                        case rel => exact ⟨i + 1, _, A3, c3, q3, by omega, by go_num, congrArg (fun s => Value.slice A3 s c3) (by have := Hln.out; omega), hq, o5, HIN.out.1, HF2.out _ (by have := HIN.out.2; rw [List.take_append_drop] at this; exact this), fun h => by omega⟩
                        case measure => simp [intOf]; omega
            · obtain rfl : i = N := by omega
              have hTT := stS_eq HS.out (by have := HF.out; rwa [List.take_of_length_le (by rw [HNl.out]; exact Nat.le_refl _)] at this)
              rw [hTT] at hoI
              go_wp2
              go_ret
              exact Ret3.mk_ hoI HBW0.out.size (HBW0.out.trans ((ext_below _ _).mono HBW0.out.size))
end Go.Proofs.YtpjaiihkgeabiaaDoor
