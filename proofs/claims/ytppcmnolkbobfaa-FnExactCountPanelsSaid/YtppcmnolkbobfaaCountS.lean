/- CountPanels of the program: the walk of the product over clubs. Conditions: lengths below 2^40. -/
import Derived.Test.YtppcmnolkbobfaaCountR
import Derived.StillTailTactics
set_option linter.unusedVariables false
set_option linter.unusedSimpArgs false
set_option maxRecDepth 100000
namespace Go.Proofs.Ytppcmnolkbobfaa
open Go.RowKit
theorem szf_eq {l : List T3} {cl : List Int} {v : Int} (hof : offsB l = true) (c : Nat) (hc : c < 21) : (szL l (eligL l cl v))[c]?.getD 0 = (szf ((eligL l cl v).map (fc l)) c : Nat) := szL_count hof c hc
theorem szf_le (l : List T3) (cl : List Int) (v : Int) (c : Nat) : szf ((eligL l cl v).map (fc l)) c ≤ (eligL l cl v).length := by
  have := List.count_le_length (a := c) (l := (eligL l cl v).map (fc l))
  simpa [szf] using this
theorem nxt_bd {f g : Nat → Nat} {B : Nat} (n h k : Nat) (hb : ∀ j t, f j * g t ≤ B) (t : Nat) (ht : t ≤ n) : (nxt f g n h k)[t]?.getD 0 ≤ (((h + 1) * B : Nat) : Int) := by
  rw [nxt_get f g n h k t ht]
  have h1 := prt_bd (f := f) (g := g) (B := B) (h := h) (fun j t _ => hb j t) t
  have h2 : (if h ≤ t ∧ t < h + k then f h * g (t - h) else 0) ≤ B := by
    split
    · exact hb _ _
    · omega
  rw [Nat.add_mul]
  omega
theorem ints_madeN (k : Nat) : (madeCells (Value.int .i64 0).cells (k * 1)).toList = (List.replicate k (0 : Int)).map (Value.int .i64) := ints_made k
set_option maxHeartbeats 4000000 in
theorem implCountPanels_any (w : World) (A : Option Addr) (n c : Nat) (l : List T3) (B : Option Addr) (m d : Nat) (cl : List Int) (ha : Rd3 w A n l) (hb : RdI w B m cl) (hn : n ≤ 1099511627776) (hm : m ≤ 1099511627776) (hnc : n ≤ c) (v q u : Int) :
    Calls Try.prog 71 #[.slice A n c, .slice B m d, .int .i64 v, .int .i64 q, .int .i64 u] w fun e w' => e = .returned (.tuple #[.int .i64 (cpV l cl v q u), .bool (cpB l cl v q u)]) ∧ ∃ x, w' = ext w x := by
  have Hl := Lib.hid ha.len
  have cc := canPanel_any w A n c l B m d cl ha hb hn hm hnc v q
  cases hk : cpB l cl v q u
  · rw [cp_no hk]
    unfold cpB at hk
    rw [Hl.out] at hk
    by_cases h14 : (14 : Int) < n
    · go_enter Try.func71, Try.ntmps71
      go_wp2_with (first | (go_at_call 147; ((with_reducible refine (cc).mono ?_); rintro e w' ⟨rfl, x, rfl⟩)) | (go_at_call 148; ((with_reducible refine (isPanelSize_any _ _).mono ?_); rintro e w' ⟨rfl, rfl⟩)))
      all_goals first | (go_ret2; exact ⟨rfl, ext_ex (by repeat (first | exact Below.refl _ _ | assumption | refine bExt ?_ _ | refine bAlloc ?_ _ | refine bDrewN ?_ _ | refine bDrew ?_ | refine bSet ?_ (by first | exact Nat.le_refl _ | omega | (simp; done) | (simp; omega)) _))⟩) | (exfalso; simp_all)
    · have h14' : decide (n ≤ 14) = true := decide_eq_true (by omega)
      rw [h14'] at hk
      go_enter Try.func71, Try.ntmps71
      go_wp2_with (first | (go_at_call 147; ((with_reducible refine (cc).mono ?_); rintro e w' ⟨rfl, x, rfl⟩)) | (go_at_call 148; ((with_reducible refine (isPanelSize_any _ _).mono ?_); rintro e w' ⟨rfl, rfl⟩)))
      all_goals first | (go_ret2; exact ⟨rfl, ext_ex (by repeat (first | exact Below.refl _ _ | assumption | refine bExt ?_ _ | refine bAlloc ?_ _ | refine bDrewN ?_ _ | refine bDrew ?_ | refine bSet ?_ (by first | exact Nat.le_refl _ | omega | (simp; done) | (simp; omega)) _))⟩) | (exfalso; simp_all)
  · have HV := Lib.hid (show cpV l cl v q u = (cpN l cl v q u.toNat (2 ^ (eligL l cl v).length) : Nat) by rw [cpV, if_pos hk])
    rw [HV.out]
    simp only [cpB, Bool.and_eq_true, decide_eq_true_iff] at hk
    obtain ⟨⟨hcan, hu⟩, h14⟩ := hk
    rw [Hl.out] at h14
    rw [hcan] at cc
    obtain ⟨hask, hq1, hq9⟩ := canB_of hcan
    obtain ⟨hu1, hu9⟩ := inB_iff.1 hu
    have h1 := (askB_of hask).1
    have hel := eligL_len l cl v
    rw [ha.len] at hel
    obtain ⟨un, rfl⟩ : ∃ un : Nat, u = un := ⟨u.toNat, by omega⟩
    simp only [Int.toNat_natCast]
    have HE := Lib.hid (cp_eq (v := v) (cl := cl) (n := un) h1 hq1 (by omega) (by omega))
    rw [HE.out]
    have hel14 : (eligL l cl v).length ≤ 14 := by omega
    have HFb := Lib.hid (fun j t => Nat.le_trans (wy_bd l cl v q j t) (pow_le hel14))
    have HZ0 := Lib.hid (wy_zero l cl v q un)
    have HSU := Lib.hid (wy_succ l cl v q)
    have HSz := Lib.hid (fun c hc => szf_eq (cl := cl) (v := v) h1 c hc)
    have HSl := Lib.hid (fun c => Nat.le_trans (szf_le l cl v c) hel14)
    have cS := fun w' A1 n1 c1 (hr : Rd3 w' A n l) (h : RdI w' A1 n1 (eligL l cl v)) (hn1 : n1 ≤ 1000000) => clubSizes_any w' A n c l A1 n1 c1 (eligL l cl v) hr h hn hn1 h1
    have HS21 := Lib.hid (szL_len l (eligL l cl v))
    generalize wyV l cl v q = F at *
    generalize szf ((eligL l cl v).map (fc l)) = sz at *
    generalize szL l (eligL l cl v) = S at *
    clear HV HE hask hcan
    obtain ⟨i0, hi0, hz0, hz1, hz2⟩ := info_parts int_info
    obtain ⟨qn, rfl⟩ : ∃ qn : Nat, q = qn := ⟨q.toNat, by omega⟩
    simp only [Int.toNat_natCast] at HSU
    have hl1 : un + 1 ≤ 10 := by omega
    go_enter Try.func71, Try.ntmps71
    go_wp2_with (first | (go_at_call 147; ((with_reducible refine (cc).mono ?_); rintro e w' ⟨rfl, x, rfl⟩)) | (go_at_call 148; ((with_reducible refine (isPanelSize_any _ _).mono ?_); rintro e w' ⟨rfl, rfl⟩)) | (at_make; refine wpList_make_full (ext w x) rfl _ _ _ rfl (ext w x).heap.size 3 i0 _ 1 Try.underlying23 hi0 hz0 hz1 .i64 .i64 _ _ (un + 1) rfl rfl rfl rfl (by rw [hz2]; omega) (by simp only [maxLen]; omega) (Nat.le_refl _) ?_; intro w1 hown1 hg1; (have hb1 : Below (ext w x).heap.size (ext w x) w1 := below_grown (Below.refl _ _) hg1 (by simp)); (rw [ints_madeN] at hown1); (obtain ⟨x1, rfl⟩ := ext_ex hb1); (have hc0 := OwI.cell_ (l := List.replicate (un + 1) 0) hown1 0 (by omega)); (have hf0 := OwI.frozen_ (l := List.replicate (un + 1) 0) hown1 0); (have hBs : ∀ u, Below w.heap.size w ((ext (ext w x) x1).setCell ⟨(ext w x).heap.size, 0, none⟩ u) := fun u => bSet (by repeat (first | exact Below.refl _ _ | assumption | refine bExt ?_ _ | refine bAlloc ?_ _ | refine bDrewN ?_ _ | refine bDrew ?_ | refine bSet ?_ (by first | exact Nat.le_refl _ | omega | (simp; done) | (simp; omega)) _)) (ext_le w x) u)) | (go_at_call 150; ((with_reducible refine (eligible_any _ _ _ _ _ _ _ _ _ (ha.below (hBs _)) (hb.below (hBs _)) hn hm _ (by omega)).mono ?_); rintro e w' ⟨A1, n1, c1, x2, rfl, rfl, o1⟩; (have hn1 : n1 ≤ 1000000 := by have := o1.len; omega))) | (go_at_call 149; ((with_reducible refine (cS _ _ _ _ (ha.below (bExt (hBs _) _)) (o1.rd) hn1).mono ?_); rintro e w' ⟨A2, n2, c2, x3, rfl, rfl, o2⟩)))
    obtain rfl : n2 = 21 := o2.len.symm.trans HS21.out
    obtain ⟨gS, rfl, hgS1, hgS2⟩ := o2.form_ (by omega)
    have hst := OwI.stored_ (l := List.replicate (un + 1) 0) hown1 0 1
    rw [← HZ0.out] at hst
    have hB0 : Below (ext w x).heap.size (ext w x) (ext (ext ((ext (ext w x) x1).setCell ⟨(ext w x).heap.size, 0, none⟩ (.int .i64 1)) x2) x3) := by repeat (first | exact Below.refl _ _ | assumption | refine bExt ?_ _ | refine bAlloc ?_ _ | refine bDrewN ?_ _ | refine bDrew ?_ | refine bSet ?_ (by first | exact Nat.le_refl _ | omega | (simp; done) | (simp; omega)) _)
    obtain ⟨y0, hy0⟩ := ext_ex hB0
    have ow := hst.1.below (bExt (bExt (Below.refl _ _) x2) x3)
    have oS := o2.mono (base_le (show Below (ext w x).heap.size (ext w x) (ext ((ext (ext w x) x1).setCell ⟨(ext w x).heap.size, 0, none⟩ (.int .i64 1)) x2) from by repeat (first | exact Below.refl _ _ | assumption | refine bExt ?_ _ | refine bAlloc ?_ _ | refine bDrewN ?_ _ | refine bDrew ?_ | refine bSet ?_ (by first | exact Nat.le_refl _ | omega | (simp; done) | (simp; omega)) _)))
    rw [hy0] at ow oS ⊢
    have hBw : Below w.heap.size w (ext w x) := ext_below w x
    have HBw := Lib.hid hBw
    clear hst hB0 hy0 hown1 hg1 hc0 hf0 o1 o2 cS cc hBs hBw hgS1 hgS2
    generalize ext w x = R at *
    go_loopw [12, 47] (fun s i wr => ∃ (j g cp : Nat) (y : World), j ≤ 21 ∧ i = .int .i64 j ∧ s = .slice (some ⟨g, 0, none⟩) (un + 1) cp ∧ wr = ext R y ∧ OwI R.heap.size (ext R y) (some ⟨g, 0, none⟩) (un + 1) cp (row (F j) un) ∧ OwI R.heap.size (ext R y) (some ⟨gS, 0, none⟩) 21 c2 S) (fun _ i _ => 21 - (intOf i).toNat)
    case atStart => exact ⟨0, _, _, y0, by omega, rfl, rfl, rfl, ow, oS⟩
    case round =>
      clear ow oS
      obtain ⟨j, g, cp, y, hj, rfl, rfl, rfl, ow, oS⟩ := hrel
      by_cases hlt : j < 21
      · have hcS := oS.cell_ j hlt
        rw [HSz.out j hlt] at hcS
        have hltI : (j : Int) < 21 := by omega
        have hszb := HSl.out j
        have HFj := Lib.hid (fun t => HFb.out j t)
        have HFs := Lib.hid (HSU.out j)
        obtain ⟨G, hG⟩ : ∃ G, pc (sz j) qn = G := ⟨_, rfl⟩
        have HG := Lib.hid hG
        unfold Hid at HFs
        rw [hG] at HFs
        replace HFs := Lib.hid HFs
        clear hG
        obtain ⟨s, hs⟩ : ∃ s, sz j = s := ⟨_, rfl⟩
        unfold Hid at HG
        rw [hs] at hcS hszb HG
        replace HG := Lib.hid HG
        clear hs
        obtain ⟨f, hf⟩ : ∃ f, F j = f := ⟨_, rfl⟩
        unfold Hid at HFj HFs
        simp only [hf] at HFj HFs
        rw [hf] at ow
        replace HFj := Lib.hid HFj
        replace HFs := Lib.hid HFs
        clear hf
        have HBR := Lib.hid (ext_below R y)
        have hgl := (ow.blk (g := g) rfl).2
        have hgSl := (oS.blk (g := gS) rfl).2
        generalize ext R y = R2 at *
        go_wp2_with (at_make; refine wpList_make_full R2 rfl _ _ _ rfl R2.heap.size 3 i0 _ 1 Try.underlying23 hi0 hz0 hz1 .i64 .i64 _ _ (un + 1) rfl rfl rfl rfl (by rw [hz2]; omega) (by simp only [maxLen]; omega) (Nat.le_refl _) ?_; intro w1 hown1 hg1)
        rw [ints_madeN, ← nxt_zero f G un] at hown1
        obtain ⟨z1, rfl⟩ := ext_ex (below_grown (Below.refl _ _) hg1 (by simp))
        clear hg1
        go_loopw [56] (fun i wr => ∃ (h : Nat) (z : World), h ≤ un + 1 ∧ i = .int .i64 h ∧ wr = ext R2 z ∧ OwI R2.heap.size (ext R2 z) (some ⟨R2.heap.size, 0, none⟩) (un + 1) (un + 1) (nxt f G un h 0)) (fun i _ => un + 1 - (intOf i).toNat)
        case atStart => exact ⟨0, z1, by omega, rfl, rfl, hown1⟩
        case round =>
          clear hown1
          obtain ⟨h, z, hh, rfl, rfl, on⟩ := hrel
          by_cases hlt2 : h < un + 1
          · have hcw := (ow.below (ext_below _ z)).cell_ h hlt2
            rw [row_get f un h (by omega)] at hcw
            have hlt2I : (h : Int) < (un : Int) + 1 := by omega
            have hfb := HFj.out h
            obtain ⟨fh, hfh⟩ : ∃ fh, f h = fh := ⟨_, rfl⟩
            rw [hfh] at hcw hfb
            have HFH := Lib.hid hfh
            clear hfh
            obtain ⟨mn, hmn⟩ : ∃ mn : Nat, min (min s qn) (un - h) = mn := ⟨_, rfl⟩
            have hmi : (if (un : Int) - h < (if qn < s then (qn : Int) else s) then (un : Int) - h else if qn < s then (qn : Int) else s) = (mn : Int) := by
              by_cases e : qn < s
              · rw [if_pos e]; by_cases e2 : (un : Int) - h < qn
                · rw [if_pos e2]; omega
                · rw [if_neg e2]; omega
              · rw [if_neg e]; by_cases e2 : (un : Int) - h < s
                · rw [if_pos e2]; omega
                · rw [if_neg e2]; omega
            have HMN := Lib.hid hmn
            have hmn1 : mn ≤ s := by omega
            have hmn2 : mn ≤ qn := by omega
            have hmn3 : mn + h ≤ un := by omega
            clear hmn
            go_wp2
            go_loopw [18] (fun t wr => ∃ (k : Nat) (z : World), k ≤ mn + 1 ∧ t = .int .i64 k ∧ wr = ext R2 z ∧ OwI R2.heap.size (ext R2 z) (some ⟨R2.heap.size, 0, none⟩) (un + 1) (un + 1) (nxt f G un h k)) (fun t _ => mn + 1 - (intOf t).toNat)
            case atStart => exact ⟨0, z, by omega, rfl, rfl, on⟩
            case round =>
              clear on
              obtain ⟨k, z, hk, rfl, rfl, on⟩ := hrel
              by_cases hlt3 : k ≤ mn
              · have hkI : (k : Int) ≤ mn := by omega
                have hcn := on.cell_ (h + k) (by omega)
                have hfn := on.frozen_ (h + k)
                have hst := on.stored_ (h + k) ((nxt f G un h k)[h + k]?.getD 0 + ((f h * G k : Nat) : Int))
                rw [nxt_step f G un h k (by omega)] at hst
                have hGk : G k = ch s k := by rw [← HG.out]; exact pc_in (by omega)
                have hchb := Nat.le_trans (ch_le s k) (pow_le hszb)
                have hgb := nxt_bd (f := f) (g := G) (B := 2 ^ 14 * 2 ^ 14) un h k (fun j t => Nat.mul_le_mul (HFj.out j) (by rw [← HG.out]; exact Nat.le_trans (pc_le _ _ _) (pow_le hszb))) (h + k) (by omega)
                obtain ⟨na, hna⟩ : ∃ na : Nat, (nxt f G un h k)[h + k]?.getD 0 = (na : Int) := ⟨_, nxt_get f G un h k (h + k) (by omega)⟩
                rw [hna] at hcn hst hgb
                rw [HFH.out, hGk] at hst
                clear hna hGk
                have cC := fun w' => choose_any w' s k (by omega) (by omega)
                generalize ch s k = ck at *
                obtain ⟨p, hp⟩ : ∃ p, fh * ck = p := ⟨_, rfl⟩
                have hp2 : p ≤ 2 ^ 14 * 2 ^ 14 := by rw [← hp]; exact Nat.mul_le_mul hfb hchb
                have hpI : (fh : Int) * (ck : Int) = (p : Int) := by rw [← hp]; push_cast; rfl
                rw [hp] at hst
                clear hp
                have hgb2 : (na : Int) ≤ 11 * (2 ^ 14 * 2 ^ 14) := by
                  have : (h + 1) * (2 ^ 14 * 2 ^ 14) ≤ 11 * (2 ^ 14 * 2 ^ 14) := Nat.mul_le_mul_right _ (by omega)
                  omega
                have hpw : IntKind.i64.wrap (p : Int) = p := IntWalk.i64_in _ (by omega)
                have hpw2 : IntKind.i64.wrap ((na : Int) + p) = na + p := IntWalk.i64_in _ (by omega)
                have hhk : IntKind.i64.wrap ((h : Int) + k) = h + k := IntWalk.i64_in _ (by omega)
                have hhk0 : (0 : Int) ≤ (h : Int) + k := by omega
                have hhk1 : (h : Int) + k < (un : Int) + 1 := by omega
                have hhk2 : ((h : Int) + k).toNat = h + k := by omega
                have Hst := Lib.hid hst
                clear hst hgb hgb2 hchb
                go_wp2
                go_still_tail 13, (by kernel_rfl)
                still_call ((cC _).mono fun _ _ h => ⟨h.1, h.2.symm⟩)
                repeat still_step
                refine wpStill_nil ?_
                change wpList _ _ _ _ _ (World.drew _)
                go_wp2
                obtain ⟨z2, hz2'⟩ := ext_ex (show Below R2.heap.size R2 ((ext R2 z).setCell ⟨R2.heap.size, h + k, none⟩ (.int .i64 (na + p))).drew from by repeat (first | exact Below.refl _ _ | assumption | refine bExt ?_ _ | refine bAlloc ?_ _ | refine bDrewN ?_ _ | refine bDrew ?_ | refine bSet ?_ (by first | exact Nat.le_refl _ | omega | (simp; done) | (simp; omega)) _))
                have on2 := Hst.out.1.below (bDrew (Below.refl _ _))
                rw [hz2'] at on2
                go_roundw
                case rel => exact ⟨k + 1, z2, by omega, by go_num, hz2', on2⟩
                case measure => simp [intOf]; omega
              · have hkm : k = mn + 1 := by omega
                have hkI : ¬ (k : Int) ≤ mn := by omega
                have HN := Lib.hid (nxt_more f G un h k (fun t ht htk => by rw [← HG.out]; exact pc_out (by have := HMN.out; omega)))
                go_wp2
                go_roundw
                case rel => exact ⟨h + 1, z, by omega, by go_num, rfl, by rw [← HN.out]; exact on⟩
                case measure => simp [intOf]; omega
          · have hhn : h = un + 1 := by omega
            have hlt2I : ¬ (h : Int) < (un : Int) + 1 := by omega
            rw [hhn, nxt_end, ← HFs.out] at on
            obtain ⟨y2, hy2⟩ := ext_ex (show Below R.heap.size R (ext R2 z) from HBR.out.trans ((ext_below _ _).mono HBR.out.size))
            have on2 := on.mono HBR.out.size
            have oS2 := oS.below (ext_below R2 z)
            rw [hy2] at on2 oS2
            go_wp2
            go_roundw
            case rel => exact ⟨_, _, _, _, _, _, _, ⟨j + 1, by omega, rfl, R2.heap.size, un + 1, rfl, y2, rfl, on2, oS2⟩, rfl, rfl, rfl, rfl, rfl, rfl, by go_num⟩
            case measure => simp [intOf]; omega
      · have hj21 : j = 21 := by omega
        have hltI : ¬ (j : Int) < 21 := by omega
        have hcw := ow.cell_ un (by omega)
        rw [row_get (F j) un un (Nat.le_refl _), hj21] at hcw
        have hunI : (un : Int) < (un : Int) + 1 := by omega
        go_wp2
        go_ret2
        exact ⟨rfl, ext_ex (HBw.out.trans ((ext_below _ _).mono HBw.out.size))⟩
end Go.Proofs.Ytppcmnolkbobfaa
