/- The reference's sorted copy. Conditions: lengths below 2^40. -/
import Derived.Test.YtpjaiihkgeabiaaSorts
set_option linter.unusedVariables false
set_option linter.unusedSimpArgs false
set_option maxRecDepth 100000
namespace Go.Proofs.Ytpjaiihkgeabiaa
open Go.Sort Go.RowKit
set_option maxHeartbeats 1000000 in
theorem jdSorted_any (w : World) (A : Option Addr) (n c : Nat) (l : List Int) (ha : RdI w A n l) (hn : n < 1099511627776) :
    Calls Try.prog 36 #[.slice A n c] w (RetI w (sortI l)) := by
  have Hl := Lib.hid ha.len
  go_enter Try.func36, Try.ntmps36
  go_wp2
  go_loopw [3, 9] (fun v i wr => ∃ (k : Nat) (B : Option Addr) (d : Nat) (x : World), k ≤ n ∧ i = .int .i64 k ∧ v = .slice B k d ∧ wr = ext w x ∧ OwI w.heap.size (ext w x) B k d (isortTo l k) ∧ (k = 0 → B = none ∧ d = 0)) (fun _ i _ => n - (intOf i).toNat)
  case atStart => exact ⟨0, none, 0, _, by omega, rfl, rfl, ext_self w, OwI.nil_, fun _ => ⟨rfl, rfl⟩⟩
  case round =>
    obtain ⟨k, B, d, x, hk, rfl, rfl, rfl, ho, hz⟩ := hrel
    by_cases hlt : k < n
    · obtain ⟨b, off, rfl, hb, hc⟩ := ha.open_ (by omega)
      have hck := hc k hlt
      rw [List.getD_eq_getElem?_getD] at hck
      clear hc
      have HS := isortTo_succ l k (by rw [Hl.out]; exact hlt)
      have hol := isortTo_len l k (by rw [Hl.out]; exact hk)
      generalize l[k]?.getD 0 = y at *
      generalize isortTo l k = out at *
      have HS := Lib.hid HS
      have hrd := ho.rd
      by_cases hk0 : k = 0
      · subst hk0
        rw [Nat.add_zero] at hck
        obtain ⟨rfl, rfl⟩ := hz rfl
        have hout : out = [] := List.eq_nil_of_length_eq_zero hol
        subst hout
        clear hz hol
        generalize hov : ([] : List Int) = out at *
        have hol : out.length = 0 := by rw [← hov]; rfl
        clear hov
        go_wp2
        go_loop [6] (fun t => t = .int .i64 0) (fun t => (intOf t).toNat)
        case atStart => rfl
        case round =>
          subst hrel
          have HI := Lib.hid (show isortTo l (0 + 1) = out.take (0) ++ [y] ++ out.drop (0) by rw [HS.out, insI, hol, show insK out y 0 = 0 from rfl])
          have hr1 := hrd.take_ (0) (by omega)
          have hr2 := hrd
          have htl : (out.take (0)).length = 0 := by rw [List.length_take]; omega
          have hjb : (0) ≤ 1099511627776 := by omega
          go_wp2
          go_region_law (first
            | (go_simp; go_at_call 58; (with_reducible refine (l1Own_any _ _ _ _ _ (hr1.below (by repeat (first | exact Below.refl _ _ | assumption | refine bExt ?_ _ | refine bAlloc ?_ _ | refine bDrewN ?_ _ | refine bDrew ?_ | refine bSet ?_ (by first | exact Nat.le_refl _ | omega | (simp; done) | (simp; omega)) _))) hjb).mono ?_); rintro e w' ⟨A1, n1, c1, x1, rfl, rfl, o1⟩; obtain rfl : n1 = 0 := o1.len.symm.trans htl)
            | (refine step_app_int (ext w x) rfl _ _ rfl A1 _ c1 (out.take (0)) rfl (o1.mono (base_le (by repeat (first | exact Below.refl _ _ | assumption | refine bExt ?_ _ | refine bAlloc ?_ _ | refine bDrewN ?_ _ | refine bDrew ?_ | refine bSet ?_ (by first | exact Nat.le_refl _ | omega | (simp; done) | (simp; omega)) _)))) ?_ ?_ _ 1 1 [y] rfl (RdI.one_ ?_ ?_) (Below.refl _ _) (by omega) ?_; (focus (repeat (first | exact Below.refl _ _ | assumption | refine bExt ?_ _ | refine bAlloc ?_ _ | refine bDrewN ?_ _ | refine bDrew ?_ | refine bSet ?_ (by first | exact Nat.le_refl _ | omega | (simp; done) | (simp; omega)) _))); (focus (repeat (first | exact Below.refl _ _ | assumption | refine bExt ?_ _ | refine bAlloc ?_ _ | refine bDrewN ?_ _ | refine bDrew ?_ | refine bSet ?_ (by first | exact Nat.le_refl _ | omega | (simp; done) | (simp; omega)) _))); (focus (simp [go_sem])); (focus (simp [go_sem])); intro A2 c2 y2 o2 hg2 hd2)
            | (refine step_app_int (ext w x) rfl _ _ rfl A2 _ c2 (out.take (0) ++ [y]) rfl o2 ?_ ?_ _ _ _ (out.drop (0)) rfl hr2 ?_ (by omega) ?_; (focus (repeat (first | exact Below.refl _ _ | assumption | refine bExt ?_ _ | refine bAlloc ?_ _ | refine bDrewN ?_ _ | refine bDrew ?_ | refine bSet ?_ (by first | exact Nat.le_refl _ | omega | (simp; done) | (simp; omega)) _))); (focus (repeat (first | exact Below.refl _ _ | assumption | refine bExt ?_ _ | refine bAlloc ?_ _ | refine bDrewN ?_ _ | refine bDrew ?_ | refine bSet ?_ (by first | exact Nat.le_refl _ | omega | (simp; done) | (simp; omega)) _))); (focus (repeat (first | exact Below.refl _ _ | assumption | refine bExt ?_ _ | refine bAlloc ?_ _ | refine bDrewN ?_ _ | refine bDrew ?_ | refine bSet ?_ (by first | exact Nat.le_refl _ | omega | (simp; done) | (simp; omega)) _))); intro A3 c3 y3 o3 hg3 hd3))
          all_goals
            go_wp2
            obtain ⟨q, hq⟩ := ext_ex (show Below w.heap.size w (ext (ext w x) y3) from by repeat (first | exact Below.refl _ _ | assumption | refine bExt ?_ _ | refine bAlloc ?_ _ | refine bDrewN ?_ _ | refine bDrew ?_ | refine bSet ?_ (by first | exact Nat.le_refl _ | omega | (simp; done) | (simp; omega)) _))
            have o4 := o3.mono (ext_le w x)
            rw [← HI.out, hq] at o4
            have hln := o4.len.symm.trans (isortTo_len l (0 + 1) (by rw [Hl.out]; omega))
            rw [hln] at o4
            have o5 := o4
            have Hln := Lib.hid hln
            clear hln
            clear o4 o3 hg3 hd3 hg2 hd2
            go_roundw
            case rel => exact ⟨0 + 1, A3, c3, q, by omega, by go_num, congrArg (fun z => Value.slice A3 z c3) (by have := Hln.out; omega), hq, o5, fun h => by omega⟩
            case measure => simp [intOf]; omega
      · obtain ⟨g, rfl, hgb, hgl⟩ := ho.form_ (by omega)
        have hkd := ho.cap_.1
        clear hz
        go_wp2
        go_loop [6] (fun t => ∃ j : Nat, j ≤ k ∧ t = .int .i64 j ∧ Hid (insK out y k = insK out y j)) (fun t => (intOf t).toNat)
        case atStart => exact ⟨k, Nat.le_refl _, rfl, rfl⟩
        case round =>
          obtain ⟨j, hj, rfl, HK⟩ := hrel
          rcases Nat.eq_zero_or_pos j with hj0 | hj0
          · subst hj0
            have HK0 := Lib.hid (show insK out y k = 0 from HK.out)
            have hd0 : ((0 : Nat) : Int) ≤ d := by omega
            have HI := Lib.hid (show isortTo l (k + 1) = out.take (0) ++ [y] ++ out.drop (0) by rw [HS.out, insI, hol, HK0.out])
            have hr1 := hrd.take_ (0) (by omega)
            have hr2 := hrd.drop_ (0) (by omega)
            have htl : (out.take (0)).length = 0 := by rw [List.length_take]; omega
            have hjb : (0) ≤ 1099511627776 := by omega
            go_wp2
            go_region_law (first
              | (go_simp; go_at_call 58; (with_reducible refine (l1Own_any _ _ _ _ _ (hr1.below (by repeat (first | exact Below.refl _ _ | assumption | refine bExt ?_ _ | refine bAlloc ?_ _ | refine bDrewN ?_ _ | refine bDrew ?_ | refine bSet ?_ (by first | exact Nat.le_refl _ | omega | (simp; done) | (simp; omega)) _))) hjb).mono ?_); rintro e w' ⟨A1, n1, c1, x1, rfl, rfl, o1⟩; obtain rfl : n1 = 0 := o1.len.symm.trans htl)
              | (refine step_app_int (ext w x) rfl _ _ rfl A1 _ c1 (out.take (0)) rfl (o1.mono (base_le (by repeat (first | exact Below.refl _ _ | assumption | refine bExt ?_ _ | refine bAlloc ?_ _ | refine bDrewN ?_ _ | refine bDrew ?_ | refine bSet ?_ (by first | exact Nat.le_refl _ | omega | (simp; done) | (simp; omega)) _)))) ?_ ?_ _ 1 1 [y] rfl (RdI.one_ ?_ ?_) (Below.refl _ _) (by omega) ?_; (focus (repeat (first | exact Below.refl _ _ | assumption | refine bExt ?_ _ | refine bAlloc ?_ _ | refine bDrewN ?_ _ | refine bDrew ?_ | refine bSet ?_ (by first | exact Nat.le_refl _ | omega | (simp; done) | (simp; omega)) _))); (focus (repeat (first | exact Below.refl _ _ | assumption | refine bExt ?_ _ | refine bAlloc ?_ _ | refine bDrewN ?_ _ | refine bDrew ?_ | refine bSet ?_ (by first | exact Nat.le_refl _ | omega | (simp; done) | (simp; omega)) _))); (focus (simp [go_sem])); (focus (simp [go_sem])); intro A2 c2 y2 o2 hg2 hd2)
              | (refine step_app_int (ext w x) rfl _ _ rfl A2 _ c2 (out.take (0) ++ [y]) rfl o2 ?_ ?_ _ _ _ (out.drop (0)) rfl hr2 ?_ (by omega) ?_; (focus (repeat (first | exact Below.refl _ _ | assumption | refine bExt ?_ _ | refine bAlloc ?_ _ | refine bDrewN ?_ _ | refine bDrew ?_ | refine bSet ?_ (by first | exact Nat.le_refl _ | omega | (simp; done) | (simp; omega)) _))); (focus (repeat (first | exact Below.refl _ _ | assumption | refine bExt ?_ _ | refine bAlloc ?_ _ | refine bDrewN ?_ _ | refine bDrew ?_ | refine bSet ?_ (by first | exact Nat.le_refl _ | omega | (simp; done) | (simp; omega)) _))); (focus (repeat (first | exact Below.refl _ _ | assumption | refine bExt ?_ _ | refine bAlloc ?_ _ | refine bDrewN ?_ _ | refine bDrew ?_ | refine bSet ?_ (by first | exact Nat.le_refl _ | omega | (simp; done) | (simp; omega)) _))); intro A3 c3 y3 o3 hg3 hd3))
            all_goals
              go_wp2
              obtain ⟨q, hq⟩ := ext_ex (show Below w.heap.size w (ext (ext w x) y3) from by repeat (first | exact Below.refl _ _ | assumption | refine bExt ?_ _ | refine bAlloc ?_ _ | refine bDrewN ?_ _ | refine bDrew ?_ | refine bSet ?_ (by first | exact Nat.le_refl _ | omega | (simp; done) | (simp; omega)) _))
              have o4 := o3.mono (ext_le w x)
              rw [← HI.out, hq] at o4
              have hln := o4.len.symm.trans (isortTo_len l (k + 1) (by rw [Hl.out]; omega))
              rw [hln] at o4
              have o5 := o4
              have Hln := Lib.hid hln
              clear hln
              clear o4 o3 hg3 hd3 hg2 hd2
              go_roundw
              case rel => exact ⟨k + 1, A3, c3, q, by omega, by go_num, congrArg (fun z => Value.slice A3 z c3) (by have := Hln.out; omega), hq, o5, fun h => by omega⟩
              case measure => simp [intOf]; omega
          · obtain ⟨j, rfl⟩ : ∃ i, j = i + 1 := ⟨j - 1, by omega⟩
            have hcj := ho.cell_ j (by omega)
            obtain ⟨z, hz⟩ : ∃ z, out[j]?.getD 0 = z := ⟨_, rfl⟩
            rw [hz] at hcj
            have HZ := Lib.hid hz
            clear hz
            by_cases hlt2 : y < z
            · have HKn := Lib.hid (show insK out y k = insK out y j by rw [HK.out, insK_step (by rw [HZ.out]; exact hlt2)])
              go_wp2
              go_round
              case rel => exact ⟨j, by omega, by go_num, HKn⟩
              case measure => simp [intOf]
            · have HKn := Lib.hid (show insK out y k = j + 1 by rw [HK.out, insK_stop (by rw [HZ.out]; exact hlt2)])
              have hd1 : (j : Int) + 1 ≤ d := by omega
              have hj00 : (0 : Int) ≤ (j : Int) + 1 := by omega
              have hk1 : (j : Int) + 1 ≤ k := by omega
              by_cases hjd : d = j + 1
              · have hjk : k = j + 1 := by omega
                subst hjk
                subst hjd
                have HI := Lib.hid (show isortTo l (j + 1 + 1) = out.take (j + 1) ++ [y] ++ out.drop (j + 1) by rw [HS.out, insI, hol, HKn.out])
                have hr1 := hrd.take_ (j + 1) (by omega)
                have hr2 : RdI (ext w x) (some ⟨g, 0, none⟩) 0 (out.drop (j + 1)) := by rw [List.drop_of_length_le (by omega)]; exact RdI.nil_
                have htl : (out.take (j + 1)).length = j + 1 := by rw [List.length_take]; omega
                have hjb : (j + 1) ≤ 1099511627776 := by omega
                go_wp2
                go_region_law (first
                  | (go_simp; go_at_call 58; (with_reducible refine (l1Own_any _ _ _ _ _ (hr1.below (by repeat (first | exact Below.refl _ _ | assumption | refine bExt ?_ _ | refine bAlloc ?_ _ | refine bDrewN ?_ _ | refine bDrew ?_ | refine bSet ?_ (by first | exact Nat.le_refl _ | omega | (simp; done) | (simp; omega)) _))) hjb).mono ?_); rintro e w' ⟨A1, n1, c1, x1, rfl, rfl, o1⟩; obtain rfl : n1 = j + 1 := o1.len.symm.trans htl)
                  | (refine step_app_int (ext w x) rfl _ _ rfl A1 _ c1 (out.take (j + 1)) rfl (o1.mono (base_le (by repeat (first | exact Below.refl _ _ | assumption | refine bExt ?_ _ | refine bAlloc ?_ _ | refine bDrewN ?_ _ | refine bDrew ?_ | refine bSet ?_ (by first | exact Nat.le_refl _ | omega | (simp; done) | (simp; omega)) _)))) ?_ ?_ _ 1 1 [y] rfl (RdI.one_ ?_ ?_) (Below.refl _ _) (by omega) ?_; (focus (repeat (first | exact Below.refl _ _ | assumption | refine bExt ?_ _ | refine bAlloc ?_ _ | refine bDrewN ?_ _ | refine bDrew ?_ | refine bSet ?_ (by first | exact Nat.le_refl _ | omega | (simp; done) | (simp; omega)) _))); (focus (repeat (first | exact Below.refl _ _ | assumption | refine bExt ?_ _ | refine bAlloc ?_ _ | refine bDrewN ?_ _ | refine bDrew ?_ | refine bSet ?_ (by first | exact Nat.le_refl _ | omega | (simp; done) | (simp; omega)) _))); (focus (simp [go_sem])); (focus (simp [go_sem])); intro A2 c2 y2 o2 hg2 hd2)
                  | (refine step_app_int (ext w x) rfl _ _ rfl A2 _ c2 (out.take (j + 1) ++ [y]) rfl o2 ?_ ?_ _ _ _ (out.drop (j + 1)) rfl hr2 ?_ (by omega) ?_; (focus (repeat (first | exact Below.refl _ _ | assumption | refine bExt ?_ _ | refine bAlloc ?_ _ | refine bDrewN ?_ _ | refine bDrew ?_ | refine bSet ?_ (by first | exact Nat.le_refl _ | omega | (simp; done) | (simp; omega)) _))); (focus (repeat (first | exact Below.refl _ _ | assumption | refine bExt ?_ _ | refine bAlloc ?_ _ | refine bDrewN ?_ _ | refine bDrew ?_ | refine bSet ?_ (by first | exact Nat.le_refl _ | omega | (simp; done) | (simp; omega)) _))); (focus (repeat (first | exact Below.refl _ _ | assumption | refine bExt ?_ _ | refine bAlloc ?_ _ | refine bDrewN ?_ _ | refine bDrew ?_ | refine bSet ?_ (by first | exact Nat.le_refl _ | omega | (simp; done) | (simp; omega)) _))); intro A3 c3 y3 o3 hg3 hd3))
                all_goals
                  go_wp2
                  obtain ⟨q, hq⟩ := ext_ex (show Below w.heap.size w (ext (ext w x) y3) from by repeat (first | exact Below.refl _ _ | assumption | refine bExt ?_ _ | refine bAlloc ?_ _ | refine bDrewN ?_ _ | refine bDrew ?_ | refine bSet ?_ (by first | exact Nat.le_refl _ | omega | (simp; done) | (simp; omega)) _))
                  have o4 := o3.mono (ext_le w x)
                  rw [← HI.out, hq] at o4
                  have hln := o4.len.symm.trans (isortTo_len l (j + 1 + 1) (by rw [Hl.out]; omega))
                  rw [hln] at o4
                  have o5 := o4
                  have Hln := Lib.hid hln
                  clear hln
                  clear o4 o3 hg3 hd3 hg2 hd2
                  go_roundw
                  case rel => exact ⟨j + 1 + 1, A3, c3, q, by omega, by go_num, congrArg (fun z => Value.slice A3 z c3) (by have := Hln.out; omega), hq, o5, fun h => by omega⟩
                  case measure => simp [intOf]; omega
              · have hjd' : ¬ (d : Int) = j + 1 := by omega
                have HI := Lib.hid (show isortTo l (k + 1) = out.take (j + 1) ++ [y] ++ out.drop (j + 1) by rw [HS.out, insI, hol, HKn.out])
                have hr1 := hrd.take_ (j + 1) (by omega)
                have hr2 := hrd.drop_ (j + 1) (by omega)
                rw [Nat.zero_add] at hr2
                have htl : (out.take (j + 1)).length = j + 1 := by rw [List.length_take]; omega
                have hjb : (j + 1) ≤ 1099511627776 := by omega
                go_wp2
                go_region_law (first
                  | (go_simp; go_at_call 58; (with_reducible refine (l1Own_any _ _ _ _ _ (hr1.below (by repeat (first | exact Below.refl _ _ | assumption | refine bExt ?_ _ | refine bAlloc ?_ _ | refine bDrewN ?_ _ | refine bDrew ?_ | refine bSet ?_ (by first | exact Nat.le_refl _ | omega | (simp; done) | (simp; omega)) _))) hjb).mono ?_); rintro e w' ⟨A1, n1, c1, x1, rfl, rfl, o1⟩; obtain rfl : n1 = j + 1 := o1.len.symm.trans htl)
                  | (refine step_app_int (ext w x) rfl _ _ rfl A1 _ c1 (out.take (j + 1)) rfl (o1.mono (base_le (by repeat (first | exact Below.refl _ _ | assumption | refine bExt ?_ _ | refine bAlloc ?_ _ | refine bDrewN ?_ _ | refine bDrew ?_ | refine bSet ?_ (by first | exact Nat.le_refl _ | omega | (simp; done) | (simp; omega)) _)))) ?_ ?_ _ 1 1 [y] rfl (RdI.one_ ?_ ?_) (Below.refl _ _) (by omega) ?_; (focus (repeat (first | exact Below.refl _ _ | assumption | refine bExt ?_ _ | refine bAlloc ?_ _ | refine bDrewN ?_ _ | refine bDrew ?_ | refine bSet ?_ (by first | exact Nat.le_refl _ | omega | (simp; done) | (simp; omega)) _))); (focus (repeat (first | exact Below.refl _ _ | assumption | refine bExt ?_ _ | refine bAlloc ?_ _ | refine bDrewN ?_ _ | refine bDrew ?_ | refine bSet ?_ (by first | exact Nat.le_refl _ | omega | (simp; done) | (simp; omega)) _))); (focus (simp [go_sem])); (focus (simp [go_sem])); intro A2 c2 y2 o2 hg2 hd2)
                  | (refine step_app_int (ext w x) rfl _ _ rfl A2 _ c2 (out.take (j + 1) ++ [y]) rfl o2 ?_ ?_ _ _ _ (out.drop (j + 1)) rfl hr2 ?_ (by omega) ?_; (focus (repeat (first | exact Below.refl _ _ | assumption | refine bExt ?_ _ | refine bAlloc ?_ _ | refine bDrewN ?_ _ | refine bDrew ?_ | refine bSet ?_ (by first | exact Nat.le_refl _ | omega | (simp; done) | (simp; omega)) _))); (focus (repeat (first | exact Below.refl _ _ | assumption | refine bExt ?_ _ | refine bAlloc ?_ _ | refine bDrewN ?_ _ | refine bDrew ?_ | refine bSet ?_ (by first | exact Nat.le_refl _ | omega | (simp; done) | (simp; omega)) _))); (focus (repeat (first | exact Below.refl _ _ | assumption | refine bExt ?_ _ | refine bAlloc ?_ _ | refine bDrewN ?_ _ | refine bDrew ?_ | refine bSet ?_ (by first | exact Nat.le_refl _ | omega | (simp; done) | (simp; omega)) _))); intro A3 c3 y3 o3 hg3 hd3))
                all_goals
                  go_wp2
                  obtain ⟨q, hq⟩ := ext_ex (show Below w.heap.size w (ext (ext w x) y3) from by repeat (first | exact Below.refl _ _ | assumption | refine bExt ?_ _ | refine bAlloc ?_ _ | refine bDrewN ?_ _ | refine bDrew ?_ | refine bSet ?_ (by first | exact Nat.le_refl _ | omega | (simp; done) | (simp; omega)) _))
                  have o4 := o3.mono (ext_le w x)
                  rw [← HI.out, hq] at o4
                  have hln := o4.len.symm.trans (isortTo_len l (k + 1) (by rw [Hl.out]; omega))
                  rw [hln] at o4
                  have o5 := o4
                  have Hln := Lib.hid hln
                  clear hln
                  clear o4 o3 hg3 hd3 hg2 hd2
                  go_roundw
                  case rel => exact ⟨k + 1, A3, c3, q, by omega, by go_num, congrArg (fun z => Value.slice A3 z c3) (by have := Hln.out; omega), hq, o5, fun h => by omega⟩
                  case measure => simp [intOf]; omega
    · have hkn := Lib.hid (show k = n by omega)
      rw [hkn.out] at ho
      have := isort_eq l
      rw [Hl.out] at this
      rw [this] at ho
      go_wp2
      go_ret
      rw [hkn.out]
      exact RetI.mk_ ho (Nat.le_refl _) (ext_below _ _)
end Go.Proofs.Ytpjaiihkgeabiaa
