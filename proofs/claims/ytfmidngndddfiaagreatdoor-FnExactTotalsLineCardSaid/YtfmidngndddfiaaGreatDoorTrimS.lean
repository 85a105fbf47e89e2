/- The reference's copy with the greatest first. Conditions: lengths below 2^40. -/
import Derived.Test.YtfmidngndddfiaaGreatDoorSorts
import Derived.Test.YtfmidngndddfiaaGreatDoorTrimP
set_option linter.unusedVariables false
set_option linter.unusedSimpArgs false
set_option maxRecDepth 100000
namespace Go.Proofs.YtfmidngndddfiaaGreatDoor
open Go.Sort Go.RowKit
theorem grown_cellT {w w' : World} {row : Option Nat} (h : w.grownBy w' row) {b o : Nat} (hb : b < w.heap.size) (hne : some b ≠ row) : w'.cell? ⟨b, o, none⟩ = w.cell? ⟨b, o, none⟩ := by
  have := h.block b hb hne
  unfold World.cell?
  rw [this]
set_option maxHeartbeats 1000000 in
theorem poSorted_any (w : World) (A : Option Addr) (n c : Nat) (l : List Int) (ha : RdI w A n l) (hn : n < 1099511627776) :
    Calls Tryz.prog 167 #[.slice A n c] w (RetI w (desTo l n)) := by
  have Hl := Lib.hid ha.len
  go_enter Tryz.func167, Tryz.ntmps167
  go_wp2
  go_loopw [3, 9] (fun v i wr => ∃ (k : Nat) (B : Option Addr) (d : Nat) (x : World), k ≤ n ∧ i = .int .i64 k ∧ v = .slice B k d ∧ wr = ext w x ∧ OwI w.heap.size (ext w x) B k d (desTo l k) ∧ (k = 0 → B = none ∧ d = 0)) (fun _ i _ => n - (intOf i).toNat)
  case atStart => exact ⟨0, none, 0, _, by omega, rfl, rfl, ext_self w, OwI.nil_, fun _ => ⟨rfl, rfl⟩⟩
  case round =>
    obtain ⟨k, B, d, x, hk, rfl, rfl, rfl, ho, hz⟩ := hrel
    by_cases hlt : k < n
    · obtain ⟨b, off, rfl, hb, hc⟩ := ha.open_ (by omega)
      have hck := hc k hlt
      rw [List.getD_eq_getElem?_getD] at hck
      clear hc
      have HS := desTo_succ l k (by rw [Hl.out]; exact hlt)
      have hol := desTo_len l k (by rw [Hl.out]; exact hk)
      generalize l[k]?.getD 0 = y at *
      generalize desTo l k = out at *
      have HS := Lib.hid HS
      have hrd := ho.rd
      by_cases hk0 : k = 0
      · subst hk0
        rw [Nat.add_zero] at hck
        obtain ⟨rfl, rfl⟩ := hz rfl
        have hout : out = [] := List.eq_nil_of_length_eq_zero hol
        subst hout
        clear hz hol
        generalize hov : ([] : List Int) = out at *
        have hol : out.length = 0 := by rw [← hov]; rfl
        clear hov
        go_wp2
        go_loop [6] (fun t => t = .int .i64 0) (fun t => (intOf t).toNat)
        case atStart => rfl
        case round =>
          subst hrel
          have HI := Lib.hid (show desTo l (0 + 1) = out.take (0) ++ [y] ++ out.drop (0) by rw [HS.out, insDL, hol, show insD out y 0 = 0 from rfl])
          have hr1 := hrd.take_ (0) (by omega)
          have hr2 := hrd
          have htl : (out.take (0)).length = 0 := by rw [List.length_take]; omega
          have hjb : (0) ≤ 1099511627776 := by omega
          have o0a := OwI.lit_ (Below.refl _ (ext w x)) [] (by simp [maxLen]) #[] rfl
          have o0b : OwI (ext w x).heap.size (((ext w x).alloc (.cells #[.int .i64 y] 3)).alloc (.cells #[] 3)) (some ⟨(ext w x).heap.size + 1, 0, none⟩) 0 0 [] := by simpa using OwI.lit_ (bAlloc (Below.refl _ (ext w x)) (.cells #[.int .i64 y] 3)) [] (by simp [maxLen]) #[] rfl
          go_wp2
          go_region_law (first
            | (refine step_app_int (ext w x) rfl _ _ rfl _ _ _ [] rfl o0a ?_ ?_ _ _ _ (out.take (0)) rfl hr1 ?_ (by omega) ?_; (focus (repeat (first | exact Below.refl _ _ | assumption | refine bExt ?_ _ | refine bAlloc ?_ _ | refine bDrewN ?_ _ | refine bDrew ?_ | refine bSet ?_ (by first | exact Nat.le_refl _ | omega | (simp; done) | (simp; omega)) _))); (focus (repeat (first | exact Below.refl _ _ | assumption | refine bExt ?_ _ | refine bAlloc ?_ _ | refine bDrewN ?_ _ | refine bDrew ?_ | refine bSet ?_ (by first | exact Nat.le_refl _ | omega | (simp; done) | (simp; omega)) _))); (focus (repeat (first | exact Below.refl _ _ | assumption | refine bExt ?_ _ | refine bAlloc ?_ _ | refine bDrewN ?_ _ | refine bDrew ?_ | refine bSet ?_ (by first | exact Nat.le_refl _ | omega | (simp; done) | (simp; omega)) _))); intro A1 c1 y1 o1 hg1 hd1; rw [Nat.zero_add] at o1)
            | (refine step_app_int (ext w x) rfl _ _ rfl _ _ _ [] rfl o0b ?_ ?_ _ _ _ (out.take (0)) rfl hr1 ?_ (by omega) ?_; (focus (repeat (first | exact Below.refl _ _ | assumption | refine bExt ?_ _ | refine bAlloc ?_ _ | refine bDrewN ?_ _ | refine bDrew ?_ | refine bSet ?_ (by first | exact Nat.le_refl _ | omega | (simp; done) | (simp; omega)) _))); (focus (repeat (first | exact Below.refl _ _ | assumption | refine bExt ?_ _ | refine bAlloc ?_ _ | refine bDrewN ?_ _ | refine bDrew ?_ | refine bSet ?_ (by first | exact Nat.le_refl _ | omega | (simp; done) | (simp; omega)) _))); (focus (repeat (first | exact Below.refl _ _ | assumption | refine bExt ?_ _ | refine bAlloc ?_ _ | refine bDrewN ?_ _ | refine bDrew ?_ | refine bSet ?_ (by first | exact Nat.le_refl _ | omega | (simp; done) | (simp; omega)) _))); intro A1 c1 y1 o1 hg1 hd1; rw [Nat.zero_add] at o1)
            | (refine step_app_int (ext w x) rfl _ _ rfl A1 _ c1 ([] ++ out.take (0)) rfl o1 ?_ ?_ _ 1 1 [y] rfl (RdI.one_ ?_ ?_) (Below.refl _ _) (by omega) ?_; (focus (repeat (first | exact Below.refl _ _ | assumption | refine bExt ?_ _ | refine bAlloc ?_ _ | refine bDrewN ?_ _ | refine bDrew ?_ | refine bSet ?_ (by first | exact Nat.le_refl _ | omega | (simp; done) | (simp; omega)) _))); (focus (repeat (first | exact Below.refl _ _ | assumption | refine bExt ?_ _ | refine bAlloc ?_ _ | refine bDrewN ?_ _ | refine bDrew ?_ | refine bSet ?_ (by first | exact Nat.le_refl _ | omega | (simp; done) | (simp; omega)) _))); (focus (simp [go_sem]; done)); (focus (simp [go_sem]; done)); intro A2 c2 y2 o2 hg2 hd2)
            | (refine step_app_int (ext w x) rfl _ _ rfl A1 _ c1 ([] ++ out.take (0)) rfl o1 ?_ ?_ _ 1 1 [y] rfl (RdI.one_ ?_ ?_) (Below.refl _ _) (by omega) ?_; (focus (repeat (first | exact Below.refl _ _ | assumption | refine bExt ?_ _ | refine bAlloc ?_ _ | refine bDrewN ?_ _ | refine bDrew ?_ | refine bSet ?_ (by first | exact Nat.le_refl _ | omega | (simp; done) | (simp; omega)) _))); (focus (repeat (first | exact Below.refl _ _ | assumption | refine bExt ?_ _ | refine bAlloc ?_ _ | refine bDrewN ?_ _ | refine bDrew ?_ | refine bSet ?_ (by first | exact Nat.le_refl _ | omega | (simp; done) | (simp; omega)) _))); (focus (first | (simp; done) | (have := hg1.size; simp at this ⊢; omega))); (focus (rw [grown_cellT hg1 (by first | (simp; done) | (simp; omega)) (by simp [blkOf])]; simp [go_sem]; done)); intro A2 c2 y2 o2 hg2 hd2)
            | (refine step_app_int (ext w x) rfl _ _ rfl A2 _ c2 ([] ++ out.take (0) ++ [y]) rfl o2 ?_ ?_ _ _ _ (out.drop (0)) rfl hr2 ?_ (by omega) ?_; (focus (repeat (first | exact Below.refl _ _ | assumption | refine bExt ?_ _ | refine bAlloc ?_ _ | refine bDrewN ?_ _ | refine bDrew ?_ | refine bSet ?_ (by first | exact Nat.le_refl _ | omega | (simp; done) | (simp; omega)) _))); (focus (repeat (first | exact Below.refl _ _ | assumption | refine bExt ?_ _ | refine bAlloc ?_ _ | refine bDrewN ?_ _ | refine bDrew ?_ | refine bSet ?_ (by first | exact Nat.le_refl _ | omega | (simp; done) | (simp; omega)) _))); (focus (repeat (first | exact Below.refl _ _ | assumption | refine bExt ?_ _ | refine bAlloc ?_ _ | refine bDrewN ?_ _ | refine bDrew ?_ | refine bSet ?_ (by first | exact Nat.le_refl _ | omega | (simp; done) | (simp; omega)) _))); intro A3 c3 y3 o3 hg3 hd3))
          all_goals
            go_wp2
            obtain ⟨q, hq⟩ := ext_ex (show Below w.heap.size w (ext (ext w x) y3) from by repeat (first | exact Below.refl _ _ | assumption | refine bExt ?_ _ | refine bAlloc ?_ _ | refine bDrewN ?_ _ | refine bDrew ?_ | refine bSet ?_ (by first | exact Nat.le_refl _ | omega | (simp; done) | (simp; omega)) _))
            have o4 := o3.mono (ext_le w x)
            rw [List.nil_append, ← HI.out, hq] at o4
            have hln := o4.len.symm.trans (desTo_len l (0 + 1) (by rw [Hl.out]; omega))
            rw [hln] at o4
            have o5 := o4
            have Hln := Lib.hid hln
            clear hln
            clear o4 o3 hg3 hd3 hg2 hd2 hg1 hd1 o1 o2
            go_roundw
            case rel => exact ⟨0 + 1, A3, c3, q, by omega, by go_num, congrArg (fun z => Value.slice A3 z c3) (by have := Hln.out; omega), hq, o5, fun h => by omega⟩
            case measure => simp [intOf]; omega
      · obtain ⟨g, rfl, hgb, hgl⟩ := ho.form_ (by omega)
        have hkd := ho.cap_.1
        clear hz
        go_wp2
        go_loop [6] (fun t => ∃ j : Nat, j ≤ k ∧ t = .int .i64 j ∧ Hid (insD out y k = insD out y j)) (fun t => (intOf t).toNat)
        case atStart => exact ⟨k, Nat.le_refl _, rfl, rfl⟩
        case round =>
          obtain ⟨j, hj, rfl, HK⟩ := hrel
          rcases Nat.eq_zero_or_pos j with hj0 | hj0
          · subst hj0
            have HK0 := Lib.hid (show insD out y k = 0 from HK.out)
            have hd0 : ((0 : Nat) : Int) ≤ d := by omega
            have HI := Lib.hid (show desTo l (k + 1) = out.take (0) ++ [y] ++ out.drop (0) by rw [HS.out, insDL, hol, HK0.out])
            have hr1 := hrd.take_ (0) (by omega)
            have hr2 := hrd.drop_ (0) (by omega)
            have htl : (out.take (0)).length = 0 := by rw [List.length_take]; omega
            have hjb : (0) ≤ 1099511627776 := by omega
            have o0a := OwI.lit_ (Below.refl _ (ext w x)) [] (by simp [maxLen]) #[] rfl
            have o0b : OwI (ext w x).heap.size (((ext w x).alloc (.cells #[.int .i64 y] 3)).alloc (.cells #[] 3)) (some ⟨(ext w x).heap.size + 1, 0, none⟩) 0 0 [] := by simpa using OwI.lit_ (bAlloc (Below.refl _ (ext w x)) (.cells #[.int .i64 y] 3)) [] (by simp [maxLen]) #[] rfl
            go_wp2
            go_region_law (first
              | (refine step_app_int (ext w x) rfl _ _ rfl _ _ _ [] rfl o0a ?_ ?_ _ _ _ (out.take (0)) rfl hr1 ?_ (by omega) ?_; (focus (repeat (first | exact Below.refl _ _ | assumption | refine bExt ?_ _ | refine bAlloc ?_ _ | refine bDrewN ?_ _ | refine bDrew ?_ | refine bSet ?_ (by first | exact Nat.le_refl _ | omega | (simp; done) | (simp; omega)) _))); (focus (repeat (first | exact Below.refl _ _ | assumption | refine bExt ?_ _ | refine bAlloc ?_ _ | refine bDrewN ?_ _ | refine bDrew ?_ | refine bSet ?_ (by first | exact Nat.le_refl _ | omega | (simp; done) | (simp; omega)) _))); (focus (repeat (first | exact Below.refl _ _ | assumption | refine bExt ?_ _ | refine bAlloc ?_ _ | refine bDrewN ?_ _ | refine bDrew ?_ | refine bSet ?_ (by first | exact Nat.le_refl _ | omega | (simp; done) | (simp; omega)) _))); intro A1 c1 y1 o1 hg1 hd1; rw [Nat.zero_add] at o1)
              | (refine step_app_int (ext w x) rfl _ _ rfl _ _ _ [] rfl o0b ?_ ?_ _ _ _ (out.take (0)) rfl hr1 ?_ (by omega) ?_; (focus (repeat (first | exact Below.refl _ _ | assumption | refine bExt ?_ _ | refine bAlloc ?_ _ | refine bDrewN ?_ _ | refine bDrew ?_ | refine bSet ?_ (by first | exact Nat.le_refl _ | omega | (simp; done) | (simp; omega)) _))); (focus (repeat (first | exact Below.refl _ _ | assumption | refine bExt ?_ _ | refine bAlloc ?_ _ | refine bDrewN ?_ _ | refine bDrew ?_ | refine bSet ?_ (by first | exact Nat.le_refl _ | omega | (simp; done) | (simp; omega)) _))); (focus (repeat (first | exact Below.refl _ _ | assumption | refine bExt ?_ _ | refine bAlloc ?_ _ | refine bDrewN ?_ _ | refine bDrew ?_ | refine bSet ?_ (by first | exact Nat.le_refl _ | omega | (simp; done) | (simp; omega)) _))); intro A1 c1 y1 o1 hg1 hd1; rw [Nat.zero_add] at o1)
              | (refine step_app_int (ext w x) rfl _ _ rfl A1 _ c1 ([] ++ out.take (0)) rfl o1 ?_ ?_ _ 1 1 [y] rfl (RdI.one_ ?_ ?_) (Below.refl _ _) (by omega) ?_; (focus (repeat (first | exact Below.refl _ _ | assumption | refine bExt ?_ _ | refine bAlloc ?_ _ | refine bDrewN ?_ _ | refine bDrew ?_ | refine bSet ?_ (by first | exact Nat.le_refl _ | omega | (simp; done) | (simp; omega)) _))); (focus (repeat (first | exact Below.refl _ _ | assumption | refine bExt ?_ _ | refine bAlloc ?_ _ | refine bDrewN ?_ _ | refine bDrew ?_ | refine bSet ?_ (by first | exact Nat.le_refl _ | omega | (simp; done) | (simp; omega)) _))); (focus (simp [go_sem]; done)); (focus (simp [go_sem]; done)); intro A2 c2 y2 o2 hg2 hd2)
              | (refine step_app_int (ext w x) rfl _ _ rfl A1 _ c1 ([] ++ out.take (0)) rfl o1 ?_ ?_ _ 1 1 [y] rfl (RdI.one_ ?_ ?_) (Below.refl _ _) (by omega) ?_; (focus (repeat (first | exact Below.refl _ _ | assumption | refine bExt ?_ _ | refine bAlloc ?_ _ | refine bDrewN ?_ _ | refine bDrew ?_ | refine bSet ?_ (by first | exact Nat.le_refl _ | omega | (simp; done) | (simp; omega)) _))); (focus (repeat (first | exact Below.refl _ _ | assumption | refine bExt ?_ _ | refine bAlloc ?_ _ | refine bDrewN ?_ _ | refine bDrew ?_ | refine bSet ?_ (by first | exact Nat.le_refl _ | omega | (simp; done) | (simp; omega)) _))); (focus (first | (simp; done) | (have := hg1.size; simp at this ⊢; omega))); (focus (rw [grown_cellT hg1 (by first | (simp; done) | (simp; omega)) (by simp [blkOf])]; simp [go_sem]; done)); intro A2 c2 y2 o2 hg2 hd2)
              | (refine step_app_int (ext w x) rfl _ _ rfl A2 _ c2 ([] ++ out.take (0) ++ [y]) rfl o2 ?_ ?_ _ _ _ (out.drop (0)) rfl hr2 ?_ (by omega) ?_; (focus (repeat (first | exact Below.refl _ _ | assumption | refine bExt ?_ _ | refine bAlloc ?_ _ | refine bDrewN ?_ _ | refine bDrew ?_ | refine bSet ?_ (by first | exact Nat.le_refl _ | omega | (simp; done) | (simp; omega)) _))); (focus (repeat (first | exact Below.refl _ _ | assumption | refine bExt ?_ _ | refine bAlloc ?_ _ | refine bDrewN ?_ _ | refine bDrew ?_ | refine bSet ?_ (by first | exact Nat.le_refl _ | omega | (simp; done) | (simp; omega)) _))); (focus (repeat (first | exact Below.refl _ _ | assumption | refine bExt ?_ _ | refine bAlloc ?_ _ | refine bDrewN ?_ _ | refine bDrew ?_ | refine bSet ?_ (by first | exact Nat.le_refl _ | omega | (simp; done) | (simp; omega)) _))); intro A3 c3 y3 o3 hg3 hd3))
            all_goals
              go_wp2
              obtain ⟨q, hq⟩ := ext_ex (show Below w.heap.size w (ext (ext w x) y3) from by repeat (first | exact Below.refl _ _ | assumption | refine bExt ?_ _ | refine bAlloc ?_ _ | refine bDrewN ?_ _ | refine bDrew ?_ | refine bSet ?_ (by first | exact Nat.le_refl _ | omega | (simp; done) | (simp; omega)) _))
              have o4 := o3.mono (ext_le w x)
              rw [List.nil_append, ← HI.out, hq] at o4
              have hln := o4.len.symm.trans (desTo_len l (k + 1) (by rw [Hl.out]; omega))
              rw [hln] at o4
              have o5 := o4
              have Hln := Lib.hid hln
              clear hln
              clear o4 o3 hg3 hd3 hg2 hd2 hg1 hd1 o1 o2
              go_roundw
              case rel => exact ⟨k + 1, A3, c3, q, by omega, by go_num, congrArg (fun z => Value.slice A3 z c3) (by have := Hln.out; omega), hq, o5, fun h => by omega⟩
              case measure => simp [intOf]; omega
          · obtain ⟨j, rfl⟩ : ∃ i, j = i + 1 := ⟨j - 1, by omega⟩
            have hcj := ho.cell_ j (by omega)
            obtain ⟨z, hz⟩ : ∃ z, out[j]?.getD 0 = z := ⟨_, rfl⟩
            rw [hz] at hcj
            have HZ := Lib.hid hz
            clear hz
            by_cases hlt2 : z < y
            · have HKn := Lib.hid (show insD out y k = insD out y j by rw [HK.out, insD_step (by rw [HZ.out]; exact hlt2)])
              go_wp2
              go_round
              case rel => exact ⟨j, by omega, by go_num, HKn⟩
              case measure => simp [intOf]
            · have HKn := Lib.hid (show insD out y k = j + 1 by rw [HK.out, insD_stop (by rw [HZ.out]; exact hlt2)])
              have hd1 : (j : Int) + 1 ≤ d := by omega
              have hj00 : (0 : Int) ≤ (j : Int) + 1 := by omega
              have hk1 : (j : Int) + 1 ≤ k := by omega
              by_cases hjd : d = j + 1
              · have hjk : k = j + 1 := by omega
                subst hjk
                subst hjd
                have HI := Lib.hid (show desTo l (j + 1 + 1) = out.take (j + 1) ++ [y] ++ out.drop (j + 1) by rw [HS.out, insDL, hol, HKn.out])
                have hr1 := hrd.take_ (j + 1) (by omega)
                have hr2 : RdI (ext w x) (some ⟨g, 0, none⟩) 0 (out.drop (j + 1)) := by rw [List.drop_of_length_le (by omega)]; exact RdI.nil_
                have htl : (out.take (j + 1)).length = j + 1 := by rw [List.length_take]; omega
                have hjb : (j + 1) ≤ 1099511627776 := by omega
                have o0a := OwI.lit_ (Below.refl _ (ext w x)) [] (by simp [maxLen]) #[] rfl
                have o0b : OwI (ext w x).heap.size (((ext w x).alloc (.cells #[.int .i64 y] 3)).alloc (.cells #[] 3)) (some ⟨(ext w x).heap.size + 1, 0, none⟩) 0 0 [] := by simpa using OwI.lit_ (bAlloc (Below.refl _ (ext w x)) (.cells #[.int .i64 y] 3)) [] (by simp [maxLen]) #[] rfl
                go_wp2
                go_region_law (first
                  | (refine step_app_int (ext w x) rfl _ _ rfl _ _ _ [] rfl o0a ?_ ?_ _ _ _ (out.take (j + 1)) rfl hr1 ?_ (by omega) ?_; (focus (repeat (first | exact Below.refl _ _ | assumption | refine bExt ?_ _ | refine bAlloc ?_ _ | refine bDrewN ?_ _ | refine bDrew ?_ | refine bSet ?_ (by first | exact Nat.le_refl _ | omega | (simp; done) | (simp; omega)) _))); (focus (repeat (first | exact Below.refl _ _ | assumption | refine bExt ?_ _ | refine bAlloc ?_ _ | refine bDrewN ?_ _ | refine bDrew ?_ | refine bSet ?_ (by first | exact Nat.le_refl _ | omega | (simp; done) | (simp; omega)) _))); (focus (repeat (first | exact Below.refl _ _ | assumption | refine bExt ?_ _ | refine bAlloc ?_ _ | refine bDrewN ?_ _ | refine bDrew ?_ | refine bSet ?_ (by first | exact Nat.le_refl _ | omega | (simp; done) | (simp; omega)) _))); intro A1 c1 y1 o1 hg1 hd1; rw [Nat.zero_add] at o1)
                  | (refine step_app_int (ext w x) rfl _ _ rfl _ _ _ [] rfl o0b ?_ ?_ _ _ _ (out.take (j + 1)) rfl hr1 ?_ (by omega) ?_; (focus (repeat (first | exact Below.refl _ _ | assumption | refine bExt ?_ _ | refine bAlloc ?_ _ | refine bDrewN ?_ _ | refine bDrew ?_ | refine bSet ?_ (by first | exact Nat.le_refl _ | omega | (simp; done) | (simp; omega)) _))); (focus (repeat (first | exact Below.refl _ _ | assumption | refine bExt ?_ _ | refine bAlloc ?_ _ | refine bDrewN ?_ _ | refine bDrew ?_ | refine bSet ?_ (by first | exact Nat.le_refl _ | omega | (simp; done) | (simp; omega)) _))); (focus (repeat (first | exact Below.refl _ _ | assumption | refine bExt ?_ _ | refine bAlloc ?_ _ | refine bDrewN ?_ _ | refine bDrew ?_ | refine bSet ?_ (by first | exact Nat.le_refl _ | omega | (simp; done) | (simp; omega)) _))); intro A1 c1 y1 o1 hg1 hd1; rw [Nat.zero_add] at o1)
                  | (refine step_app_int (ext w x) rfl _ _ rfl A1 _ c1 ([] ++ out.take (j + 1)) rfl o1 ?_ ?_ _ 1 1 [y] rfl (RdI.one_ ?_ ?_) (Below.refl _ _) (by omega) ?_; (focus (repeat (first | exact Below.refl _ _ | assumption | refine bExt ?_ _ | refine bAlloc ?_ _ | refine bDrewN ?_ _ | refine bDrew ?_ | refine bSet ?_ (by first | exact Nat.le_refl _ | omega | (simp; done) | (simp; omega)) _))); (focus (repeat (first | exact Below.refl _ _ | assumption | refine bExt ?_ _ | refine bAlloc ?_ _ | refine bDrewN ?_ _ | refine bDrew ?_ | refine bSet ?_ (by first | exact Nat.le_refl _ | omega | (simp; done) | (simp; omega)) _))); (focus (simp [go_sem]; done)); (focus (simp [go_sem]; done)); intro A2 c2 y2 o2 hg2 hd2)
                  | (refine step_app_int (ext w x) rfl _ _ rfl A1 _ c1 ([] ++ out.take (j + 1)) rfl o1 ?_ ?_ _ 1 1 [y] rfl (RdI.one_ ?_ ?_) (Below.refl _ _) (by omega) ?_; (focus (repeat (first | exact Below.refl _ _ | assumption | refine bExt ?_ _ | refine bAlloc ?_ _ | refine bDrewN ?_ _ | refine bDrew ?_ | refine bSet ?_ (by first | exact Nat.le_refl _ | omega | (simp; done) | (simp; omega)) _))); (focus (repeat (first | exact Below.refl _ _ | assumption | refine bExt ?_ _ | refine bAlloc ?_ _ | refine bDrewN ?_ _ | refine bDrew ?_ | refine bSet ?_ (by first | exact Nat.le_refl _ | omega | (simp; done) | (simp; omega)) _))); (focus (first | (simp; done) | (have := hg1.size; simp at this ⊢; omega))); (focus (rw [grown_cellT hg1 (by first | (simp; done) | (simp; omega)) (by simp [blkOf])]; simp [go_sem]; done)); intro A2 c2 y2 o2 hg2 hd2)
                  | (refine step_app_int (ext w x) rfl _ _ rfl A2 _ c2 ([] ++ out.take (j + 1) ++ [y]) rfl o2 ?_ ?_ _ _ _ (out.drop (j + 1)) rfl hr2 ?_ (by omega) ?_; (focus (repeat (first | exact Below.refl _ _ | assumption | refine bExt ?_ _ | refine bAlloc ?_ _ | refine bDrewN ?_ _ | refine bDrew ?_ | refine bSet ?_ (by first | exact Nat.le_refl _ | omega | (simp; done) | (simp; omega)) _))); (focus (repeat (first | exact Below.refl _ _ | assumption | refine bExt ?_ _ | refine bAlloc ?_ _ | refine bDrewN ?_ _ | refine bDrew ?_ | refine bSet ?_ (by first | exact Nat.le_refl _ | omega | (simp; done) | (simp; omega)) _))); (focus (repeat (first | exact Below.refl _ _ | assumption | refine bExt ?_ _ | refine bAlloc ?_ _ | refine bDrewN ?_ _ | refine bDrew ?_ | refine bSet ?_ (by first | exact Nat.le_refl _ | omega | (simp; done) | (simp; omega)) _))); intro A3 c3 y3 o3 hg3 hd3))
                all_goals
                  go_wp2
                  obtain ⟨q, hq⟩ := ext_ex (show Below w.heap.size w (ext (ext w x) y3) from by repeat (first | exact Below.refl _ _ | assumption | refine bExt ?_ _ | refine bAlloc ?_ _ | refine bDrewN ?_ _ | refine bDrew ?_ | refine bSet ?_ (by first | exact Nat.le_refl _ | omega | (simp; done) | (simp; omega)) _))
                  have o4 := o3.mono (ext_le w x)
                  rw [List.nil_append, ← HI.out, hq] at o4
                  have hln := o4.len.symm.trans (desTo_len l (j + 1 + 1) (by rw [Hl.out]; omega))
                  rw [hln] at o4
                  have o5 := o4
                  have Hln := Lib.hid hln
                  clear hln
                  clear o4 o3 hg3 hd3 hg2 hd2 hg1 hd1 o1 o2
                  go_roundw
                  case rel => exact ⟨j + 1 + 1, A3, c3, q, by omega, by go_num, congrArg (fun z => Value.slice A3 z c3) (by have := Hln.out; omega), hq, o5, fun h => by omega⟩
                  case measure => simp [intOf]; omega
              · have hjd' : ¬ (d : Int) = j + 1 := by omega
                have HI := Lib.hid (show desTo l (k + 1) = out.take (j + 1) ++ [y] ++ out.drop (j + 1) by rw [HS.out, insDL, hol, HKn.out])
                have hr1 := hrd.take_ (j + 1) (by omega)
                have hr2 := hrd.drop_ (j + 1) (by omega)
                rw [Nat.zero_add] at hr2
                have htl : (out.take (j + 1)).length = j + 1 := by rw [List.length_take]; omega
                have hjb : (j + 1) ≤ 1099511627776 := by omega
                have o0a := OwI.lit_ (Below.refl _ (ext w x)) [] (by simp [maxLen]) #[] rfl
                have o0b : OwI (ext w x).heap.size (((ext w x).alloc (.cells #[.int .i64 y] 3)).alloc (.cells #[] 3)) (some ⟨(ext w x).heap.size + 1, 0, none⟩) 0 0 [] := by simpa using OwI.lit_ (bAlloc (Below.refl _ (ext w x)) (.cells #[.int .i64 y] 3)) [] (by simp [maxLen]) #[] rfl
                go_wp2
                go_region_law (first
                  | (refine step_app_int (ext w x) rfl _ _ rfl _ _ _ [] rfl o0a ?_ ?_ _ _ _ (out.take (j + 1)) rfl hr1 ?_ (by omega) ?_; (focus (repeat (first | exact Below.refl _ _ | assumption | refine bExt ?_ _ | refine bAlloc ?_ _ | refine bDrewN ?_ _ | refine bDrew ?_ | refine bSet ?_ (by first | exact Nat.le_refl _ | omega | (simp; done) | (simp; omega)) _))); (focus (repeat (first | exact Below.refl _ _ | assumption | refine bExt ?_ _ | refine bAlloc ?_ _ | refine bDrewN ?_ _ | refine bDrew ?_ | refine bSet ?_ (by first | exact Nat.le_refl _ | omega | (simp; done) | (simp; omega)) _))); (focus (repeat (first | exact Below.refl _ _ | assumption | refine bExt ?_ _ | refine bAlloc ?_ _ | refine bDrewN ?_ _ | refine bDrew ?_ | refine bSet ?_ (by first | exact Nat.le_refl _ | omega | (simp; done) | (simp; omega)) _))); intro A1 c1 y1 o1 hg1 hd1; rw [Nat.zero_add] at o1)
                  | (refine step_app_int (ext w x) rfl _ _ rfl _ _ _ [] rfl o0b ?_ ?_ _ _ _ (out.take (j + 1)) rfl hr1 ?_ (by omega) ?_; (focus (repeat (first | exact Below.refl _ _ | assumption | refine bExt ?_ _ | refine bAlloc ?_ _ | refine bDrewN ?_ _ | refine bDrew ?_ | refine bSet ?_ (by first | exact Nat.le_refl _ | omega | (simp; done) | (simp; omega)) _))); (focus (repeat (first | exact Below.refl _ _ | assumption | refine bExt ?_ _ | refine bAlloc ?_ _ | refine bDrewN ?_ _ | refine bDrew ?_ | refine bSet ?_ (by first | exact Nat.le_refl _ | omega | (simp; done) | (simp; omega)) _))); (focus (repeat (first | exact Below.refl _ _ | assumption | refine bExt ?_ _ | refine bAlloc ?_ _ | refine bDrewN ?_ _ | refine bDrew ?_ | refine bSet ?_ (by first | exact Nat.le_refl _ | omega | (simp; done) | (simp; omega)) _))); intro A1 c1 y1 o1 hg1 hd1; rw [Nat.zero_add] at o1)
                  | (refine step_app_int (ext w x) rfl _ _ rfl A1 _ c1 ([] ++ out.take (j + 1)) rfl o1 ?_ ?_ _ 1 1 [y] rfl (RdI.one_ ?_ ?_) (Below.refl _ _) (by omega) ?_; (focus (repeat (first | exact Below.refl _ _ | assumption | refine bExt ?_ _ | refine bAlloc ?_ _ | refine bDrewN ?_ _ | refine bDrew ?_ | refine bSet ?_ (by first | exact Nat.le_refl _ | omega | (simp; done) | (simp; omega)) _))); (focus (repeat (first | exact Below.refl _ _ | assumption | refine bExt ?_ _ | refine bAlloc ?_ _ | refine bDrewN ?_ _ | refine bDrew ?_ | refine bSet ?_ (by first | exact Nat.le_refl _ | omega | (simp; done) | (simp; omega)) _))); (focus (simp [go_sem]; done)); (focus (simp [go_sem]; done)); intro A2 c2 y2 o2 hg2 hd2)
                  | (refine step_app_int (ext w x) rfl _ _ rfl A1 _ c1 ([] ++ out.take (j + 1)) rfl o1 ?_ ?_ _ 1 1 [y] rfl (RdI.one_ ?_ ?_) (Below.refl _ _) (by omega) ?_; (focus (repeat (first | exact Below.refl _ _ | assumption | refine bExt ?_ _ | refine bAlloc ?_ _ | refine bDrewN ?_ _ | refine bDrew ?_ | refine bSet ?_ (by first | exact Nat.le_refl _ | omega | (simp; done) | (simp; omega)) _))); (focus (repeat (first | exact Below.refl _ _ | assumption | refine bExt ?_ _ | refine bAlloc ?_ _ | refine bDrewN ?_ _ | refine bDrew ?_ | refine bSet ?_ (by first | exact Nat.le_refl _ | omega | (simp; done) | (simp; omega)) _))); (focus (first | (simp; done) | (have := hg1.size; simp at this ⊢; omega))); (focus (rw [grown_cellT hg1 (by first | (simp; done) | (simp; omega)) (by simp [blkOf])]; simp [go_sem]; done)); intro A2 c2 y2 o2 hg2 hd2)
                  | (refine step_app_int (ext w x) rfl _ _ rfl A2 _ c2 ([] ++ out.take (j + 1) ++ [y]) rfl o2 ?_ ?_ _ _ _ (out.drop (j + 1)) rfl hr2 ?_ (by omega) ?_; (focus (repeat (first | exact Below.refl _ _ | assumption | refine bExt ?_ _ | refine bAlloc ?_ _ | refine bDrewN ?_ _ | refine bDrew ?_ | refine bSet ?_ (by first | exact Nat.le_refl _ | omega | (simp; done) | (simp; omega)) _))); (focus (repeat (first | exact Below.refl _ _ | assumption | refine bExt ?_ _ | refine bAlloc ?_ _ | refine bDrewN ?_ _ | refine bDrew ?_ | refine bSet ?_ (by first | exact Nat.le_refl _ | omega | (simp; done) | (simp; omega)) _))); (focus (repeat (first | exact Below.refl _ _ | assumption | refine bExt ?_ _ | refine bAlloc ?_ _ | refine bDrewN ?_ _ | refine bDrew ?_ | refine bSet ?_ (by first | exact Nat.le_refl _ | omega | (simp; done) | (simp; omega)) _))); intro A3 c3 y3 o3 hg3 hd3))
                all_goals
                  go_wp2
                  obtain ⟨q, hq⟩ := ext_ex (show Below w.heap.size w (ext (ext w x) y3) from by repeat (first | exact Below.refl _ _ | assumption | refine bExt ?_ _ | refine bAlloc ?_ _ | refine bDrewN ?_ _ | refine bDrew ?_ | refine bSet ?_ (by first | exact Nat.le_refl _ | omega | (simp; done) | (simp; omega)) _))
                  have o4 := o3.mono (ext_le w x)
                  rw [List.nil_append, ← HI.out, hq] at o4
                  have hln := o4.len.symm.trans (desTo_len l (k + 1) (by rw [Hl.out]; omega))
                  rw [hln] at o4
                  have o5 := o4
                  have Hln := Lib.hid hln
                  clear hln
                  clear o4 o3 hg3 hd3 hg2 hd2 hg1 hd1 o1 o2
                  go_roundw
                  case rel => exact ⟨k + 1, A3, c3, q, by omega, by go_num, congrArg (fun z => Value.slice A3 z c3) (by have := Hln.out; omega), hq, o5, fun h => by omega⟩
                  case measure => simp [intOf]; omega
    · have hkn := Lib.hid (show k = n by omega)
      rw [hkn.out] at ho
      go_wp2
      go_ret
      rw [hkn.out]
      exact RetI.mk_ ho (Nat.le_refl _) (ext_below _ _)
end Go.Proofs.YtfmidngndddfiaaGreatDoor
