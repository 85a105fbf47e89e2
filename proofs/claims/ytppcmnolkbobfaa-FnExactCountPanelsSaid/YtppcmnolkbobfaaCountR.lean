/- CountPanels of the reference: the walk over all subsets. Conditions: lengths below 2^40. -/
import Derived.Test.YtppcmnolkbobfaaCountQ
set_option linter.unusedVariables false
set_option linter.unusedSimpArgs false
set_option maxRecDepth 100000
namespace Go.Proofs.Ytppcmnolkbobfaa
open Go.RowKit
set_option maxHeartbeats 400000 in
theorem choose_any (w : World) (n k : Nat) (hk : k ≤ n) (hn : n ≤ 24) : Calls Try.prog 151 #[.int .i64 n, .int .i64 k] w fun e w' => e = .returned (.int .i64 (ch n k : Nat)) ∧ w = w' := by
  go_enter Try.func151, Try.ntmps151
  go_wp2
  go_loop [5, 8] (fun t i => ∃ j : Nat, j ≤ k ∧ i = .int .i64 j ∧ t = .int .i64 (ch n j : Nat)) (fun _ i => k - (intOf i).toNat)
  case atStart => exact ⟨0, by omega, rfl, by rw [ch_zero]; rfl⟩
  case round =>
    obtain ⟨j, hj, rfl, rfl⟩ := hrel
    by_cases hlt : j < k
    · have h1 := ch_le n j
      have h2 : 2 ^ n ≤ 2 ^ 24 := Nat.pow_le_pow_right (by omega) hn
      have h3 : ch n j * (n - j) ≤ 2 ^ 24 * 24 := Nat.mul_le_mul (by omega) (by omega)
      have HN := Lib.hid (ch_next (n := n) (k := j))
      generalize hc : ch n j = c at *
      clear hc h1 h2
      obtain ⟨p, hp⟩ : ∃ p, c * (n - j) = p := ⟨_, rfl⟩
      have hpI : (c : Int) * ((n : Int) - j) = (p : Int) := by rw [← hp]; push_cast [show j ≤ n by omega]; rfl
      unfold Hid at HN
      rw [hp] at HN h3
      replace HN := Lib.hid HN
      clear hp
      have hw : IntKind.i64.wrap (p : Int) = p := IntWalk.i64_in _ (by omega)
      have hd1 : (0 : Int) ≤ (p : Int) / ((j : Int) + 1) := Int.ediv_nonneg (by omega) (by omega)
      have hd2 : (p : Int) / ((j : Int) + 1) ≤ 1099511627776 := Int.le_trans (Int.ediv_le_self _ (by omega)) (by omega)
      go_wp2
      go_round
      case rel => exact ⟨j + 1, by omega, by go_num, by rw [← HN.out]; push_cast; rfl⟩
      case measure => simp [intOf]; omega
    · have hkn := Lib.hid (show j = k by omega)
      go_wp2
      go_ret
      exact ⟨ret_int (by rw [hkn.out]), rfl⟩
theorem and_one (a : Nat) (ha : a < 1099511627776) : bits BinOp.and IntKind.i64 (a : Int) 1 = ((a % 2 : Nat) : Int) := by
  have h1 : (BitVec.ofInt 64 (a : Int)).toNat = a := by
    rw [BitVec.ofInt_natCast, BitVec.toNat_ofNat]; exact Nat.mod_eq_of_lt (by omega)
  have h2 : (BitVec.ofInt 64 (1 : Int)).toNat = 1 := rfl
  show IntKind.i64.wrap ((BitVec.ofInt 64 (a : Int) &&& BitVec.ofInt 64 (1 : Int)).toNat : Int) = _
  rw [BitVec.toNat_and, h1, h2, Nat.and_one_is_mod, IntWalk.i64_in _ (by omega)]
def Dj' (A B : Option Addr) : Prop := blkOf A = none ∨ blkOf A ≠ blkOf B
theorem djs {A B : Option Addr} (h : Dj' A B) : blkOf B = none ∨ blkOf B ≠ blkOf A := by
  cases hB : blkOf B with
  | none => exact .inl rfl
  | some g => exact .inr (fun e => by rcases h with h | h; · rw [h] at e; cases e
                                      · exact h (by rw [← e, hB]))
theorem dj_push {A A' B : Option Addr} {e s base n c : Nat} {xs : List Value} {W : World} (h : Dj' A B) (hB : Ow e s base W B n c xs) (hd : blkOf A' = blkOf A ∨ ∃ g, blkOf A' = some g ∧ W.heap.size < g) : Dj' A' B := by
  rcases hd with hd | ⟨g, hd, hlt⟩
  · unfold Dj'; rw [hd]; exact h
  · refine .inr fun e => ?_
    rw [hd] at e
    have := (hB.blk e.symm).2
    omega
theorem cp_no {l : List T3} {cl : List Int} {v q n : Int} (h : cpB l cl v q n = false) : cpV l cl v q n = 0 := by rw [cpV, if_neg (by rw [h]; decide)]
set_option maxHeartbeats 2000000 in
theorem specCountPanels_any (w : World) (A : Option Addr) (n c : Nat) (l : List T3) (B : Option Addr) (m d : Nat) (cl : List Int) (ha : Rd3 w A n l) (hb : RdI w B m cl) (hn : n ≤ 1099511627776) (hm : m ≤ 1099511627776) (v q u : Int) :
    Calls Try.prog 68 #[.slice A n c, .slice B m d, .int .i64 v, .int .i64 q, .int .i64 u] w fun e w' => e = .returned (.tuple #[.int .i64 (cpV l cl v q u), .bool (cpB l cl v q u)]) ∧ ∃ x, w' = ext w x := by
  have Hl := Lib.hid ha.len
  cases hk : cpB l cl v q u
  · rw [cp_no hk]
    unfold cpB canB at hk
    rw [Hl.out] at hk
    by_cases h14 : (14 : Int) < n
    · go_enter Try.func68, Try.ntmps68
      go_wp2_with (first | (go_at_call 142; ((with_reducible refine (paAsked_any _ _ _ _ _ _ _ _ _ ha hb hn hm _).mono ?_); rintro e w' ⟨rfl, x, rfl⟩)) | (go_at_call 143; ((with_reducible refine (paMost_any _ _).mono ?_); rintro e w' ⟨rfl, rfl⟩)))
      all_goals first | (go_ret2; exact ⟨rfl, ext_ex (by repeat (first | exact Below.refl _ _ | assumption | refine bExt ?_ _ | refine bAlloc ?_ _ | refine bDrewN ?_ _ | refine bDrew ?_ | refine bSet ?_ (by first | exact Nat.le_refl _ | omega | (simp; done) | (simp; omega)) _))⟩) | (exfalso; simp_all)
    · have h14' : decide (n ≤ 14) = true := decide_eq_true (by omega)
      rw [h14'] at hk
      go_enter Try.func68, Try.ntmps68
      go_wp2_with (first | (go_at_call 142; ((with_reducible refine (paAsked_any _ _ _ _ _ _ _ _ _ ha hb hn hm _).mono ?_); rintro e w' ⟨rfl, x, rfl⟩)) | (go_at_call 143; ((with_reducible refine (paMost_any _ _).mono ?_); rintro e w' ⟨rfl, rfl⟩)))
      all_goals first | (go_ret2; exact ⟨rfl, ext_ex (by repeat (first | exact Below.refl _ _ | assumption | refine bExt ?_ _ | refine bAlloc ?_ _ | refine bDrewN ?_ _ | refine bDrew ?_ | refine bSet ?_ (by first | exact Nat.le_refl _ | omega | (simp; done) | (simp; omega)) _))⟩) | (exfalso; simp_all)
  · have HV := Lib.hid (show cpV l cl v q u = (cpN l cl v q u.toNat (2 ^ (eligL l cl v).length) : Nat) by rw [cpV, if_pos hk])
    rw [HV.out]
    simp only [cpB, canB, Bool.and_eq_true, decide_eq_true_iff] at hk
    obtain ⟨⟨⟨hask, hq⟩, hu⟩, h14⟩ := hk
    rw [Hl.out] at h14
    obtain ⟨hq1, hq9⟩ := inB_iff.1 hq
    obtain ⟨hu1, hu9⟩ := inB_iff.1 hu
    have h1 := (askB_of hask).1
    have hel := eligL_len l cl v
    rw [ha.len] at hel
    obtain ⟨un, rfl⟩ : ∃ un : Nat, u = un := ⟨u.toNat, by omega⟩
    simp only [Int.toNat_natCast]
    have cP := fun w' C z f L h1' h2' h3 h4 => paIs_any w' A n c l B m d cl h1' h2' hn hm C z f L h3 h4 v q h1 hq1 hq9
    have HH : Hid (∀ s, hitB l cl v q un s = ((sel 0 (eligL l cl v) s (eligL l cl v).length).length == un && panB l cl v q (sel 0 (eligL l cl v) s (eligL l cl v).length))) := fun s => rfl
    have HC : Hid (∀ s, cpN l cl v q un (s + 1) = cpN l cl v q un s + if hitB l cl v q un s then 1 else 0) := fun s => rfl
    have HC0 : Hid (cpN l cl v q un 0 = 0) := rfl
    have hCb := fun s => cnt_le (hitB l cl v q un) s
    clear HV
    go_enter Try.func68, Try.ntmps68
    go_wp2_with (first | (go_at_call 142; ((with_reducible refine (paAsked_any _ _ _ _ _ _ _ _ _ ha hb hn hm _).mono ?_); rintro e w' ⟨rfl, x, rfl⟩)) | (go_at_call 143; ((with_reducible refine (paMost_any _ _).mono ?_); rintro e w' ⟨rfl, rfl⟩)) | (go_at_call 144; ((with_reducible refine (paEligible_any _ _ _ _ _ _ _ _ _ (ha.below (by repeat (first | exact Below.refl _ _ | assumption | refine bExt ?_ _ | refine bAlloc ?_ _ | refine bDrewN ?_ _ | refine bDrew ?_ | refine bSet ?_ (by first | exact Nat.le_refl _ | omega | (simp; done) | (simp; omega)) _))) (hb.below (by repeat (first | exact Below.refl _ _ | assumption | refine bExt ?_ _ | refine bAlloc ?_ _ | refine bDrewN ?_ _ | refine bDrew ?_ | refine bSet ?_ (by first | exact Nat.le_refl _ | omega | (simp; done) | (simp; omega)) _))) hn hm _ h1 (by omega)).mono ?_); rintro e w' ⟨A1, n1, c1, x2, rfl, rfl, o1⟩)))
    obtain ⟨m1, hm1⟩ : ∃ m1, (eligL l cl v).length = m1 := ⟨_, rfl⟩
    obtain rfl : m1 = n1 := hm1.symm.trans o1.len
    have HM := Lib.hid hm1
    have hmb : m1 ≤ 14 := by omega
    unfold Hid at HH
    simp only [hm1] at HH
    replace HH := Lib.hid HH
    clear hm1 hel
    have hp2 : 2 ^ m1 ≤ 2 ^ 14 := Nat.pow_le_pow_right (by omega) hmb
    obtain ⟨p, hp⟩ : ∃ p, 2 ^ m1 = p := ⟨_, rfl⟩
    have hpI : (2 : Int) ^ m1 = (p : Int) := by rw [← hp]; push_cast; rfl
    rw [hp] at hp2
    have HP := Lib.hid hp
    clear hp
    have hsh : wrap64 ((2 : Int) ^ m1) = (p : Int) := by rw [hpI]; exact IntWalk.wrap64_in _ (by omega)
    clear hpI
    have hsr : ∀ k s : Nat, s < p → k < m1 → True := fun _ _ _ _ => trivial
    clear hsr
    go_loopw [13, 14] (fun t s wr => ∃ (k : Nat) (y : World), k ≤ p ∧ s = .int .i64 k ∧ t = .int .i64 (cpN l cl v q un k : Nat) ∧ wr = ext (ext w x) y ∧ OwI (ext w x).heap.size (ext (ext w x) y) A1 m1 c1 (eligL l cl v)) (fun _ s _ => p - (intOf s).toNat)
    case atStart => exact ⟨0, x2, by omega, rfl, by rw [HC0.out]; rfl, rfl, o1⟩
    case round =>
      obtain ⟨k, y, hk, rfl, rfl, rfl, oE⟩ := hrel
      by_cases hlt : k < p
      · have hltI : (k : Int) < p := by omega
        go_wp2
        go_loopw [15, 52] (fun t s wr => ∃ (j : Nat) (D : Option Addr) (z f : Nat) (y : World), (j ≤ m1 ∧ z ≤ j) ∧ s = .int .i64 j ∧ t = .slice D z f ∧ wr = ext (ext w x) y ∧ OwI (ext w x).heap.size (ext (ext w x) y) A1 m1 c1 (eligL l cl v) ∧ OwI (ext w x).heap.size (ext (ext w x) y) D z f (sel 0 (eligL l cl v) k j) ∧ Dj' D A1) (fun _ s _ => m1 - (intOf s).toNat)
        case atStart => exact ⟨0, none, 0, 0, _, by omega, rfl, rfl, rfl, oE, OwI.nil_, .inl rfl⟩
        case round =>
          obtain ⟨j, D, z, f, y, ⟨hj, hzj⟩, rfl, rfl, rfl, oE, oD, hdj⟩ := hrel
          clear hsh
          by_cases hlt2 : j < m1
          · obtain ⟨g, rfl, hg1, hg2⟩ := oE.form_ (by omega)
            have hcj := oE.cell_ j hlt2
            have hj2I : (j : Int) < m1 := by omega
            have hkj : k / 2 ^ j ≤ k := Nat.div_le_self _ _
            have hbt := and_one (k / 2 ^ j) (by omega)
            rw [show ((k / 2 ^ j : Nat) : Int) = (k : Int) / 2 ^ j by push_cast; rfl] at hbt
            have HSl : Hid (sel 0 (eligL l cl v) k (j + 1) = if k / 2 ^ j % 2 = 1 then sel 0 (eligL l cl v) k j ++ [(eligL l cl v)[j]?.getD 0] else sel 0 (eligL l cl v) k j) := rfl
            by_cases hb1 : k / 2 ^ j % 2 = 1
            · have hbb : (bits BinOp.and IntKind.i64 ((k : Int) / 2 ^ j) 1 == 1) = true := by rw [hbt, hb1]; rfl
              have HS := Lib.hid (HSl.out.trans (if_pos hb1))
              clear hbt hb1 HSl hkj
              generalize (eligL l cl v)[j]?.getD 0 = x0 at *
              have hzb : z ≤ 1099511627776 := by omega
              go_wp2_with (first | (at_builtin; (refine wpl_push_int (ext w x) _ _ _ ?_ rfl _ _ rfl D z f _ rfl oD ?_ ?_ rfl hzb ?_); (focus (first | rfl | (simp; done))); (focus (repeat (first | exact Below.refl _ _ | assumption | refine bExt ?_ _ | refine bAlloc ?_ _ | refine bDrewN ?_ _ | refine bDrew ?_ | refine bSet ?_ (by first | exact Nat.le_refl _ | omega | (simp; done) | (simp; omega)) _))); (focus (repeat (first | exact Below.refl _ _ | assumption | refine bExt ?_ _ | refine bAlloc ?_ _ | refine bDrewN ?_ _ | refine bDrew ?_ | refine bSet ?_ (by first | exact Nat.le_refl _ | omega | (simp; done) | (simp; omega)) _))); intro D' f' y3 oD' hga hda))
              have oE' := oE.kept hga (djs hdj)
              have hdj' := dj_push hdj oE hda
              go_roundw
              case rel => first | exact ⟨j + 1, D', z + 1, f', y3, by omega, by go_num, rfl, rfl, oE', by rw [HS.out]; exact oD', hdj'⟩ | ((repeat apply Exists.intro); exact ⟨⟨j + 1, D', z + 1, f', y3, by omega, by go_num, rfl, rfl, oE', by rw [HS.out]; exact oD', hdj'⟩, rfl⟩)
              case measure => simp [intOf]; omega
            · have hbb : (bits BinOp.and IntKind.i64 ((k : Int) / 2 ^ j) 1 == 1) = false := by rw [hbt, beq_eq_false_iff_ne]; intro h; exact hb1 (by exact_mod_cast h)
              have HS := Lib.hid (HSl.out.trans (if_neg hb1))
              clear hbt hb1 HSl hkj
              go_wp2
              go_roundw
              case rel => first | exact ⟨j + 1, D, z, f, y, by omega, by go_num, rfl, rfl, oE, by rw [HS.out]; exact oD, hdj⟩ | ((repeat apply Exists.intro); exact ⟨⟨j + 1, D, z, f, y, by omega, by go_num, rfl, rfl, oE, by rw [HS.out]; exact oD, hdj⟩, rfl⟩)
              case measure => simp [intOf]; omega
          · have hjm : j = m1 := by omega
            have oD2 := oD
            rw [hjm] at oD2
            have hzl := oD2.len
            have hb0 : hitB l cl v q un k = ((z : Int) == un && panB l cl v q (sel 0 (eligL l cl v) k m1)) := by
              rw [HH.out k, hzl]
              congr 1
              rw [Bool.eq_iff_iff, beq_iff_eq, beq_iff_eq]; omega
            have hCk := hCb k
            have HCk : Hid (cpN l cl v q un k ≤ k) := hCk
            have cQ := fun w' h1' h2' h3 => cP w' D z f (sel 0 (eligL l cl v) k m1) h1' h2' h3 (by omega)
            clear cP
            have hz14 : z ≤ 1099511627776 := by omega
            cases hh : hitB l cl v q un k
            · rw [hh] at hb0
              have HN := Lib.hid (show cpN l cl v q un (k + 1) = cpN l cl v q un k by rw [HC.out k, hh]; rfl)
              by_cases hzu : (z : Int) = un
              · have hpf : panB l cl v q (sel 0 (eligL l cl v) k m1) = false := by
                  rw [show ((z : Int) == un) = true by simpa using hzu, Bool.true_and] at hb0
                  exact hb0.symm
                simp only [hpf] at cQ
                have hzub : ((z : Int) == un) = true := by simpa using hzu
                clear hb0 hh hpf hzl hzu
                go_wp2_with (first | (go_at_call 145; ((with_reducible refine (cQ _ (ha.below (by repeat (first | exact Below.refl _ _ | assumption | refine bExt ?_ _ | refine bAlloc ?_ _ | refine bDrewN ?_ _ | refine bDrew ?_ | refine bSet ?_ (by first | exact Nat.le_refl _ | omega | (simp; done) | (simp; omega)) _))) (hb.below (by repeat (first | exact Below.refl _ _ | assumption | refine bExt ?_ _ | refine bAlloc ?_ _ | refine bDrewN ?_ _ | refine bDrew ?_ | refine bSet ?_ (by first | exact Nat.le_refl _ | omega | (simp; done) | (simp; omega)) _))) (oD2.rd)).mono ?_); rintro e w' ⟨rfl, x4, rfl⟩)))
                obtain ⟨y4, hy4⟩ := ext_ex (show Below (ext w x).heap.size (ext w x) (ext (ext (ext w x) y) x4) from by repeat (first | exact Below.refl _ _ | assumption | refine bExt ?_ _ | refine bAlloc ?_ _ | refine bDrewN ?_ _ | refine bDrew ?_ | refine bSet ?_ (by first | exact Nat.le_refl _ | omega | (simp; done) | (simp; omega)) _))
                have oE' := oE.below (ext_below _ x4)
                rw [hy4] at oE'
                go_roundw
                case rel => exact ⟨k + 1, y4, by omega, by go_num, by rw [HN.out], hy4, oE'⟩
                case measure => simp [intOf]; omega
              · have hzub : ((z : Int) == un) = false := by simpa using hzu
                clear hb0 hh hzl hzu
                go_wp2
                go_roundw
                case rel => exact ⟨k + 1, y, by omega, by go_num, by rw [HN.out], rfl, oE⟩
                case measure => simp [intOf]; omega
            · rw [hh] at hb0
              have HN := Lib.hid (show cpN l cl v q un (k + 1) = cpN l cl v q un k + 1 by rw [HC.out k, hh]; rfl)
              have hck := HCk.out
              have hb0' := hb0.symm
              rw [Bool.and_eq_true] at hb0'
              obtain ⟨hzub, hpt⟩ := hb0'
              simp only [hpt] at cQ
              clear hb0 hh hpt hzl
              go_wp2_with (first | (go_at_call 145; ((with_reducible refine (cQ _ (ha.below (by repeat (first | exact Below.refl _ _ | assumption | refine bExt ?_ _ | refine bAlloc ?_ _ | refine bDrewN ?_ _ | refine bDrew ?_ | refine bSet ?_ (by first | exact Nat.le_refl _ | omega | (simp; done) | (simp; omega)) _))) (hb.below (by repeat (first | exact Below.refl _ _ | assumption | refine bExt ?_ _ | refine bAlloc ?_ _ | refine bDrewN ?_ _ | refine bDrew ?_ | refine bSet ?_ (by first | exact Nat.le_refl _ | omega | (simp; done) | (simp; omega)) _))) (oD2.rd)).mono ?_); rintro e w' ⟨rfl, x4, rfl⟩)))
              obtain ⟨y4, hy4⟩ := ext_ex (show Below (ext w x).heap.size (ext w x) (ext (ext (ext w x) y) x4) from by repeat (first | exact Below.refl _ _ | assumption | refine bExt ?_ _ | refine bAlloc ?_ _ | refine bDrewN ?_ _ | refine bDrew ?_ | refine bSet ?_ (by first | exact Nat.le_refl _ | omega | (simp; done) | (simp; omega)) _))
              have oE' := oE.below (ext_below _ x4)
              rw [hy4] at oE'
              go_roundw
              case rel => exact ⟨k + 1, y4, by omega, by go_num, by rw [HN.out]; go_num, hy4, oE'⟩
              case measure => simp [intOf]; omega
      · have hkp := Lib.hid (show k = p by omega)
        have hltI : ¬ (k : Int) < p := by omega
        go_wp2
        go_ret2
        exact ⟨ret_intB0 (by rw [hkp.out, HM.out, HP.out]), ext_ex (by repeat (first | exact Below.refl _ _ | assumption | refine bExt ?_ _ | refine bAlloc ?_ _ | refine bDrewN ?_ _ | refine bDrew ?_ | refine bSet ?_ (by first | exact Nat.le_refl _ | omega | (simp; done) | (simp; omega)) _))⟩
end Go.Proofs.Ytppcmnolkbobfaa
