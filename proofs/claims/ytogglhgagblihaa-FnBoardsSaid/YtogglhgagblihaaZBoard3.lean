/- The reference's board: a stable insertion. Conditions: asked as the claim asks. -/
import Derived.Test.YtogglhgagblihaaZBoard2
import Derived.Test.YtogglhgagblihaaZSorts
set_option linter.unusedVariables false
set_option linter.unusedSimpArgs false
set_option maxRecDepth 100000
namespace Go.Proofs.Ytogglhgagblihaa
open Go.RowKit
theorem bKey_lt {S : List Int} {i k : Nat} : (S[i]?.getD 0 < S[k]?.getD 0) ↔ bKey S k < bKey S i := by simp only [bKey, Int.toNat_natCast]; omega
theorem grown_cell {w w' : World} {row : Option Nat} (h : w.grownBy w' row) {b o : Nat} (hb : b < w.heap.size) (hne : some b ≠ row) : w'.cell? ⟨b, o, none⟩ = w.cell? ⟨b, o, none⟩ := by
  have := h.block b hb hne
  unfold World.cell?
  rw [this]
theorem bKey_at {S : List Int} {i : Nat} : bKey S i = - (S[i]?.getD 0) := by simp only [bKey, Int.toNat_natCast]
set_option maxHeartbeats 4000000 in
theorem srBoard_any (w : World) (L : Option Addr) (n cl : Nat) (l : List (Int × Int)) (a b c gap t : Int) (A : Option Addr) (cs : Nat) (S : List Int) (hl : RdS w L n l) (hn : n ≤ 1099511627776) (ht : timedB l a b c gap = true) (hr : RdI w A n S) (hb : ∀ j : Nat, 0 ≤ S[j]?.getD 0 ∧ S[j]?.getD 0 ≤ 100000) :
    Calls Try.prog 86 #[.slice L n cl, .agg #[.int .i64 a, .int .i64 b, .int .i64 c, .int .i64 gap], .slice A n cs, .int .i64 t] w (RetBd w S (pickI (knAt l (runS l a b c gap 0 0) gap t) n)) := by
  obtain ⟨_, _, hn40, _, _, _⟩ := timed_facts hl.len ht
  go_enter Try.func86, Try.ntmps86
  go_wp2_with ((go_at_call 91; ((with_reducible refine (srKnown_any _ _ _ _ _ _ _ _ _ _ (hl.below (by repeat (first | exact Below.refl _ _ | assumption | refine bExt ?_ _ | refine bAlloc ?_ _ | refine bDrewN ?_ _ | refine bDrew ?_ | refine bSet ?_ (by first | exact Nat.le_refl _ | omega | (simp; done) | (simp; omega)) _))) hn ht).mono ?_); rintro e w' ⟨A1, n1, c1, x, rfl, rfl, o1⟩)))
  obtain rfl : n = n1 := (o1.len.symm.trans (by simp [knL])).symm
  have hrK := o1.rd
  have hBW : Below w.heap.size w (ext (w.alloc (.cells #[.int .i64 a, .int .i64 b, .int .i64 c, .int .i64 gap] 25)) x) := by repeat (first | exact Below.refl _ _ | assumption | refine bExt ?_ _ | refine bAlloc ?_ _ | refine bDrewN ?_ _ | refine bDrew ?_ | refine bSet ?_ (by first | exact Nat.le_refl _ | omega | (simp; done) | (simp; omega)) _)
  have hrS := hr.below hBW
  clear o1 hl
  generalize ext (w.alloc (.cells #[.int .i64 a, .int .i64 b, .int .i64 c, .int .i64 gap] 25)) x = W0 at *
  generalize runS l a b c gap 0 0 = SV at *
  have HPm := Lib.hid (fun m => pickI_mem (p := knAt l SV gap t) (n := m))
  have HB := Lib.hid hb
  clear ht hb
  go_loopw [9, 18] (fun v i wr => ∃ (k : Nat) (T : List Int) (D : Option Addr) (z q : Nat) (y : World), (k ≤ n ∧ z ≤ k) ∧ i = .int .i64 k ∧ v = .slice D z q ∧ wr = ext W0 y ∧ OwI W0.heap.size (ext W0 y) D z q T ∧ Hid (Srt (bKey S) T) ∧ Hid (SF (bKey S) T (pickI (knAt l SV gap t) k)) ∧ (z = 0 → D = none ∧ q = 0)) (fun _ i _ => n - (intOf i).toNat)
  case atStart => exact ⟨0, [], none, 0, 0, _, by omega, rfl, rfl, ext_self W0, OwI.nil_, Srt.nil, SF.refl _, fun _ => ⟨rfl, rfl⟩⟩
  case round =>
    obtain ⟨k, T, D, z, q, y, ⟨hk, hzk⟩, rfl, rfl, rfl, ho, HS, HF, hz⟩ := hrel
    by_cases hlt : k < n
    · obtain ⟨bK, offK, rfl, hbK, hcK⟩ := hrK.open_ (by omega)
      have hck := hcK k hlt
      rw [knL_get _ _ _ _ _ _ hlt] at hck
      clear hcK
      cases hp : knAt l SV gap t k
      · rw [hp] at hck
        have HF2 := Lib.hid (show SF (bKey S) T (pickI (knAt l SV gap t) (k + 1)) by rw [pickI_no hp]; exact HF.out)
        clear hp
        go_wp2
        go_roundw
        case rel => exact ⟨k + 1, T, D, z, q, y, by omega, by go_num, rfl, rfl, ho, HS, HF2, hz⟩
        case measure => simp [intOf]; omega
      · rw [hp] at hck
        have HF2 := Lib.hid (show ∀ U, SF (bKey S) U (T ++ [(k : Int)]) → SF (bKey S) U (pickI (knAt l SV gap t) (k + 1)) from fun U hU => by rw [pickI_yes hp]; exact hU.trans (HF.out.append (SF.refl _)))
        clear hp
        obtain ⟨bS, offS, rfl, hbS, hcS⟩ := hrS.open_ (by omega)
        have hcSk := hcS k hlt
        rw [List.getD_eq_getElem?_getD] at hcSk
        have HCS := Lib.hid hcS
        clear hcS
        have HTl := Lib.hid ho.len
        have hqq := Ow.cap_ ho
        have HTm := Lib.hid (fun x (hx : x ∈ T) => HPm.out k x (HF.out.mem hx))
        have bk := HB.out k
        have HK := Lib.hid (bKey_at (S := S) (i := k))
        obtain ⟨sk, hsk⟩ : ∃ sk, S[k]?.getD 0 = sk := ⟨_, rfl⟩
        unfold Hid at HK
        rw [hsk] at hcSk bk HK
        replace HK := Lib.hid HK
        clear hsk
        have hkI : (k : Int) < n := by omega
        by_cases hz0 : z = 0
        · obtain ⟨rfl, rfl⟩ := hz hz0
          subst hz0
          clear hz
          have HIN := Lib.hid (Srt.insert (key := bKey S) (x := (k : Int)) (p := T.take 0) (s := T.drop 0) (by rw [List.take_append_drop]; exact HS.out) (fun y hy => by simp at hy) (fun y hy => by have := HTl.out; rw [List.eq_nil_of_length_eq_zero this] at hy; simp at hy))
          go_wp2
          go_loopw [12] (fun u ws => u = .int .i64 0 ∧ ∃ y', ws = ext W0 y' ∧ OwI W0.heap.size (ext W0 y') none 0 0 T) (fun _ _ => 0)
          case atStart => exact ⟨rfl, _, rfl, ho⟩
          case round =>
            obtain ⟨rfl, y', rfl, oj⟩ := hrel
            clear ho
            go_wp2
            go_quiet (fail)
            obtain ⟨y2, hy2⟩ := ext_ex (show Below W0.heap.size W0 ((ext W0 y').drewN nq) from by repeat (first | exact Below.refl _ _ | assumption | refine bExt ?_ _ | refine bAlloc ?_ _ | refine bDrewN ?_ _ | refine bDrew ?_ | refine bSet ?_ (by first | exact Nat.le_refl _ | omega | (simp; done) | (simp; omega)) _))
            have oj2 := oj.below (bDrewN (Below.refl _ _) nq)
            rw [hy2] at oj2 ⊢
            clear hy2 oj
            have hrd := oj2.rd
            have hr1 : RdI (ext W0 y2) none 0 (T.take 0) := hrd.take_ 0 (Nat.le_refl _)
            have hr2 : RdI (ext W0 y2) none 0 (T.drop 0) := hrd
            have o0a := OwI.lit_ (Below.refl _ (ext W0 y2)) [] (by simp [maxLen]) #[] rfl
            have o0b : OwI (ext W0 y2).heap.size (((ext W0 y2).alloc (.cells #[.int .i64 k] 3)).alloc (.cells #[] 3)) (some ⟨(ext W0 y2).heap.size + 1, 0, none⟩) 0 0 [] := by simpa using OwI.lit_ (bAlloc (Below.refl _ (ext W0 y2)) (.cells #[.int .i64 k] 3)) [] (by simp [maxLen]) #[] rfl
            go_wp2
            go_region_law (first
              | (refine step_app_int (ext W0 y2) rfl _ _ rfl _ _ _ [] rfl o0a ?_ ?_ _ _ _ (T.take (0)) rfl hr1 ?_ (by omega) ?_; (focus (repeat (first | exact Below.refl _ _ | assumption | refine bExt ?_ _ | refine bAlloc ?_ _ | refine bDrewN ?_ _ | refine bDrew ?_ | refine bSet ?_ (by first | exact Nat.le_refl _ | omega | (simp; done) | (simp; omega)) _))); (focus (repeat (first | exact Below.refl _ _ | assumption | refine bExt ?_ _ | refine bAlloc ?_ _ | refine bDrewN ?_ _ | refine bDrew ?_ | refine bSet ?_ (by first | exact Nat.le_refl _ | omega | (simp; done) | (simp; omega)) _))); (focus (repeat (first | exact Below.refl _ _ | assumption | refine bExt ?_ _ | refine bAlloc ?_ _ | refine bDrewN ?_ _ | refine bDrew ?_ | refine bSet ?_ (by first | exact Nat.le_refl _ | omega | (simp; done) | (simp; omega)) _))); intro A1 c1 y3 o1 hg1 hd1; rw [Nat.zero_add] at o1)
              | (refine step_app_int (ext W0 y2) rfl _ _ rfl _ _ _ [] rfl o0b ?_ ?_ _ _ _ (T.take (0)) rfl hr1 ?_ (by omega) ?_; (focus (repeat (first | exact Below.refl _ _ | assumption | refine bExt ?_ _ | refine bAlloc ?_ _ | refine bDrewN ?_ _ | refine bDrew ?_ | refine bSet ?_ (by first | exact Nat.le_refl _ | omega | (simp; done) | (simp; omega)) _))); (focus (repeat (first | exact Below.refl _ _ | assumption | refine bExt ?_ _ | refine bAlloc ?_ _ | refine bDrewN ?_ _ | refine bDrew ?_ | refine bSet ?_ (by first | exact Nat.le_refl _ | omega | (simp; done) | (simp; omega)) _))); (focus (repeat (first | exact Below.refl _ _ | assumption | refine bExt ?_ _ | refine bAlloc ?_ _ | refine bDrewN ?_ _ | refine bDrew ?_ | refine bSet ?_ (by first | exact Nat.le_refl _ | omega | (simp; done) | (simp; omega)) _))); intro A1 c1 y3 o1 hg1 hd1; rw [Nat.zero_add] at o1)
              | (refine step_app_int (ext W0 y2) rfl _ _ rfl A1 _ c1 ([] ++ T.take (0)) rfl o1 ?_ ?_ _ 1 1 [(k : Int)] rfl (RdI.one_ ?_ ?_) (Below.refl _ _) (by omega) ?_; (focus (repeat (first | exact Below.refl _ _ | assumption | refine bExt ?_ _ | refine bAlloc ?_ _ | refine bDrewN ?_ _ | refine bDrew ?_ | refine bSet ?_ (by first | exact Nat.le_refl _ | omega | (simp; done) | (simp; omega)) _))); (focus (repeat (first | exact Below.refl _ _ | assumption | refine bExt ?_ _ | refine bAlloc ?_ _ | refine bDrewN ?_ _ | refine bDrew ?_ | refine bSet ?_ (by first | exact Nat.le_refl _ | omega | (simp; done) | (simp; omega)) _))); (focus (simp [go_sem]; done)); (focus (simp [go_sem]; done)); intro A2 c2 y4 o2 hg2 hd2)
              | (refine step_app_int (ext W0 y2) rfl _ _ rfl A1 _ c1 ([] ++ T.take (0)) rfl o1 ?_ ?_ _ 1 1 [(k : Int)] rfl (RdI.one_ ?_ ?_) (Below.refl _ _) (by omega) ?_; (focus (repeat (first | exact Below.refl _ _ | assumption | refine bExt ?_ _ | refine bAlloc ?_ _ | refine bDrewN ?_ _ | refine bDrew ?_ | refine bSet ?_ (by first | exact Nat.le_refl _ | omega | (simp; done) | (simp; omega)) _))); (focus (repeat (first | exact Below.refl _ _ | assumption | refine bExt ?_ _ | refine bAlloc ?_ _ | refine bDrewN ?_ _ | refine bDrew ?_ | refine bSet ?_ (by first | exact Nat.le_refl _ | omega | (simp; done) | (simp; omega)) _))); (focus (first | (simp; done) | (have := hg1.size; simp at this ⊢; omega))); (focus (rw [grown_cell hg1 (by first | (simp; done) | (simp; omega)) (by simp [blkOf])]; simp [go_sem]; done)); intro A2 c2 y4 o2 hg2 hd2)
              | (refine step_app_int (ext W0 y2) rfl _ _ rfl A2 _ c2 ([] ++ T.take (0) ++ [(k : Int)]) rfl o2 ?_ ?_ _ _ _ (T.drop (0)) rfl hr2 ?_ (by omega) ?_; (focus (repeat (first | exact Below.refl _ _ | assumption | refine bExt ?_ _ | refine bAlloc ?_ _ | refine bDrewN ?_ _ | refine bDrew ?_ | refine bSet ?_ (by first | exact Nat.le_refl _ | omega | (simp; done) | (simp; omega)) _))); (focus (repeat (first | exact Below.refl _ _ | assumption | refine bExt ?_ _ | refine bAlloc ?_ _ | refine bDrewN ?_ _ | refine bDrew ?_ | refine bSet ?_ (by first | exact Nat.le_refl _ | omega | (simp; done) | (simp; omega)) _))); (focus (repeat (first | exact Below.refl _ _ | assumption | refine bExt ?_ _ | refine bAlloc ?_ _ | refine bDrewN ?_ _ | refine bDrew ?_ | refine bSet ?_ (by first | exact Nat.le_refl _ | omega | (simp; done) | (simp; omega)) _))); intro A3 c3 y5 o3 hg3 hd3))
            all_goals
              go_wp2
              obtain ⟨q3, hq⟩ := ext_ex (show Below W0.heap.size W0 (ext (ext W0 y2) y5) from by repeat (first | exact Below.refl _ _ | assumption | refine bExt ?_ _ | refine bAlloc ?_ _ | refine bDrewN ?_ _ | refine bDrew ?_ | refine bSet ?_ (by first | exact Nat.le_refl _ | omega | (simp; done) | (simp; omega)) _))
              have o4 := o3.mono (ext_le W0 y2)
              rw [show [] ++ T.take (0) ++ [(k : Int)] ++ T.drop (0) = T.take (0) ++ (k : Int) :: T.drop (0) by simp, hq] at o4
              have hln := o4.len.symm.trans (show (T.take (0) ++ (k : Int) :: T.drop (0)).length = 0 + 1 by have h1 := congrArg List.length (List.take_append_drop (0) T); simp only [List.length_append, List.length_cons] at h1 ⊢; have := HTl.out; omega)
              rw [hln] at o4
              have o5 := o4
              have Hln := Lib.hid hln
              clear hln o4 o3 hg3 hd3 hg2 hd2 hg1 hd1 o1 o2
              go_roundw
              case rel => exact ⟨k + 1, _, A3, 0 + 1, c3, q3, by omega, by go_num, congrArg (fun s => Value.slice A3 s c3) (by have := Hln.out; omega), hq, o5, HIN.out.1, HF2.out _ (by have := HIN.out.2; rw [List.take_append_drop] at this; exact this), fun h => by omega⟩
              case measure => simp [intOf]; omega
        · obtain ⟨g, rfl, hgb, hgl⟩ := ho.form_ (by omega)
          clear hz
          go_wp2
          go_loopw [12] (fun u ws => ∃ (j : Nat) (y' : World), j ≤ z ∧ u = .int .i64 j ∧ ws = ext W0 y' ∧ OwI W0.heap.size (ext W0 y') (some ⟨g, 0, none⟩) z q T ∧ Hid (∀ e ∈ T.drop j, bKey S k < bKey S e)) (fun u _ => (intOf u).toNat)
          case atStart => exact ⟨z, _, Nat.le_refl _, rfl, rfl, ho, fun e he => by rw [List.drop_of_length_le (by rw [HTl.out]; exact Nat.le_refl _)] at he; simp at he⟩
          case round =>
            obtain ⟨j, y', hj, rfl, rfl, oj, HG⟩ := hrel
            clear ho
            rcases Nat.eq_zero_or_pos j with hj0 | hj0
            · subst hj0
              have HIN := Lib.hid (Srt.insert (key := bKey S) (x := (k : Int)) (p := T.take 0) (s := T.drop 0) (by rw [List.take_append_drop]; exact HS.out) (fun y hy => by simp at hy) HG.out)
              have hd0 : ((0 : Nat) : Int) ≤ q := by omega
              go_wp2
              go_quiet (fail)
              obtain ⟨y2, hy2⟩ := ext_ex (show Below W0.heap.size W0 ((ext W0 y').drewN nq) from by repeat (first | exact Below.refl _ _ | assumption | refine bExt ?_ _ | refine bAlloc ?_ _ | refine bDrewN ?_ _ | refine bDrew ?_ | refine bSet ?_ (by first | exact Nat.le_refl _ | omega | (simp; done) | (simp; omega)) _))
              have oj2 := oj.below (bDrewN (Below.refl _ _) nq)
              rw [hy2] at oj2 ⊢
              clear hy2 oj
              have hrd := oj2.rd
              have hr1 := hrd.take_ 0 (by omega)
              have hr2 := hrd.drop_ 0 (by omega)
              have o0a := OwI.lit_ (Below.refl _ (ext W0 y2)) [] (by simp [maxLen]) #[] rfl
              have o0b : OwI (ext W0 y2).heap.size (((ext W0 y2).alloc (.cells #[.int .i64 k] 3)).alloc (.cells #[] 3)) (some ⟨(ext W0 y2).heap.size + 1, 0, none⟩) 0 0 [] := by simpa using OwI.lit_ (bAlloc (Below.refl _ (ext W0 y2)) (.cells #[.int .i64 k] 3)) [] (by simp [maxLen]) #[] rfl
              go_wp2
              go_region_law (first
                | (refine step_app_int (ext W0 y2) rfl _ _ rfl _ _ _ [] rfl o0a ?_ ?_ _ _ _ (T.take (0)) rfl hr1 ?_ (by omega) ?_; (focus (repeat (first | exact Below.refl _ _ | assumption | refine bExt ?_ _ | refine bAlloc ?_ _ | refine bDrewN ?_ _ | refine bDrew ?_ | refine bSet ?_ (by first | exact Nat.le_refl _ | omega | (simp; done) | (simp; omega)) _))); (focus (repeat (first | exact Below.refl _ _ | assumption | refine bExt ?_ _ | refine bAlloc ?_ _ | refine bDrewN ?_ _ | refine bDrew ?_ | refine bSet ?_ (by first | exact Nat.le_refl _ | omega | (simp; done) | (simp; omega)) _))); (focus (repeat (first | exact Below.refl _ _ | assumption | refine bExt ?_ _ | refine bAlloc ?_ _ | refine bDrewN ?_ _ | refine bDrew ?_ | refine bSet ?_ (by first | exact Nat.le_refl _ | omega | (simp; done) | (simp; omega)) _))); intro A1 c1 y3 o1 hg1 hd1; rw [Nat.zero_add] at o1)
                | (refine step_app_int (ext W0 y2) rfl _ _ rfl _ _ _ [] rfl o0b ?_ ?_ _ _ _ (T.take (0)) rfl hr1 ?_ (by omega) ?_; (focus (repeat (first | exact Below.refl _ _ | assumption | refine bExt ?_ _ | refine bAlloc ?_ _ | refine bDrewN ?_ _ | refine bDrew ?_ | refine bSet ?_ (by first | exact Nat.le_refl _ | omega | (simp; done) | (simp; omega)) _))); (focus (repeat (first | exact Below.refl _ _ | assumption | refine bExt ?_ _ | refine bAlloc ?_ _ | refine bDrewN ?_ _ | refine bDrew ?_ | refine bSet ?_ (by first | exact Nat.le_refl _ | omega | (simp; done) | (simp; omega)) _))); (focus (repeat (first | exact Below.refl _ _ | assumption | refine bExt ?_ _ | refine bAlloc ?_ _ | refine bDrewN ?_ _ | refine bDrew ?_ | refine bSet ?_ (by first | exact Nat.le_refl _ | omega | (simp; done) | (simp; omega)) _))); intro A1 c1 y3 o1 hg1 hd1; rw [Nat.zero_add] at o1)
                | (refine step_app_int (ext W0 y2) rfl _ _ rfl A1 _ c1 ([] ++ T.take (0)) rfl o1 ?_ ?_ _ 1 1 [(k : Int)] rfl (RdI.one_ ?_ ?_) (Below.refl _ _) (by omega) ?_; (focus (repeat (first | exact Below.refl _ _ | assumption | refine bExt ?_ _ | refine bAlloc ?_ _ | refine bDrewN ?_ _ | refine bDrew ?_ | refine bSet ?_ (by first | exact Nat.le_refl _ | omega | (simp; done) | (simp; omega)) _))); (focus (repeat (first | exact Below.refl _ _ | assumption | refine bExt ?_ _ | refine bAlloc ?_ _ | refine bDrewN ?_ _ | refine bDrew ?_ | refine bSet ?_ (by first | exact Nat.le_refl _ | omega | (simp; done) | (simp; omega)) _))); (focus (simp [go_sem]; done)); (focus (simp [go_sem]; done)); intro A2 c2 y4 o2 hg2 hd2)
                | (refine step_app_int (ext W0 y2) rfl _ _ rfl A1 _ c1 ([] ++ T.take (0)) rfl o1 ?_ ?_ _ 1 1 [(k : Int)] rfl (RdI.one_ ?_ ?_) (Below.refl _ _) (by omega) ?_; (focus (repeat (first | exact Below.refl _ _ | assumption | refine bExt ?_ _ | refine bAlloc ?_ _ | refine bDrewN ?_ _ | refine bDrew ?_ | refine bSet ?_ (by first | exact Nat.le_refl _ | omega | (simp; done) | (simp; omega)) _))); (focus (repeat (first | exact Below.refl _ _ | assumption | refine bExt ?_ _ | refine bAlloc ?_ _ | refine bDrewN ?_ _ | refine bDrew ?_ | refine bSet ?_ (by first | exact Nat.le_refl _ | omega | (simp; done) | (simp; omega)) _))); (focus (first | (simp; done) | (have := hg1.size; simp at this ⊢; omega))); (focus (rw [grown_cell hg1 (by first | (simp; done) | (simp; omega)) (by simp [blkOf])]; simp [go_sem]; done)); intro A2 c2 y4 o2 hg2 hd2)
                | (refine step_app_int (ext W0 y2) rfl _ _ rfl A2 _ c2 ([] ++ T.take (0) ++ [(k : Int)]) rfl o2 ?_ ?_ _ _ _ (T.drop (0)) rfl hr2 ?_ (by omega) ?_; (focus (repeat (first | exact Below.refl _ _ | assumption | refine bExt ?_ _ | refine bAlloc ?_ _ | refine bDrewN ?_ _ | refine bDrew ?_ | refine bSet ?_ (by first | exact Nat.le_refl _ | omega | (simp; done) | (simp; omega)) _))); (focus (repeat (first | exact Below.refl _ _ | assumption | refine bExt ?_ _ | refine bAlloc ?_ _ | refine bDrewN ?_ _ | refine bDrew ?_ | refine bSet ?_ (by first | exact Nat.le_refl _ | omega | (simp; done) | (simp; omega)) _))); (focus (repeat (first | exact Below.refl _ _ | assumption | refine bExt ?_ _ | refine bAlloc ?_ _ | refine bDrewN ?_ _ | refine bDrew ?_ | refine bSet ?_ (by first | exact Nat.le_refl _ | omega | (simp; done) | (simp; omega)) _))); intro A3 c3 y5 o3 hg3 hd3))
              all_goals
                go_wp2
                obtain ⟨q3, hq⟩ := ext_ex (show Below W0.heap.size W0 (ext (ext W0 y2) y5) from by repeat (first | exact Below.refl _ _ | assumption | refine bExt ?_ _ | refine bAlloc ?_ _ | refine bDrewN ?_ _ | refine bDrew ?_ | refine bSet ?_ (by first | exact Nat.le_refl _ | omega | (simp; done) | (simp; omega)) _))
                have o4 := o3.mono (ext_le W0 y2)
                rw [show [] ++ T.take (0) ++ [(k : Int)] ++ T.drop (0) = T.take (0) ++ (k : Int) :: T.drop (0) by simp, hq] at o4
                have hln := o4.len.symm.trans (show (T.take (0) ++ (k : Int) :: T.drop (0)).length = z + 1 by have h1 := congrArg List.length (List.take_append_drop (0) T); simp only [List.length_append, List.length_cons] at h1 ⊢; have := HTl.out; omega)
                rw [hln] at o4
                have o5 := o4
                have Hln := Lib.hid hln
                clear hln o4 o3 hg3 hd3 hg2 hd2 hg1 hd1 o1 o2
                go_roundw
                case rel => exact ⟨k + 1, _, A3, z + 1, c3, q3, by omega, by go_num, congrArg (fun s => Value.slice A3 s c3) (by have := Hln.out; omega), hq, o5, HIN.out.1, HF2.out _ (by have := HIN.out.2; rw [List.take_append_drop] at this; exact this), fun h => by omega⟩
                case measure => simp [intOf]; omega
            · obtain ⟨j, rfl⟩ : ∃ i, j = i + 1 := ⟨j - 1, by omega⟩
              have hcj := oj.cell_ j (by omega)
              have hmm := getD_mem 0 T j (by rw [HTl.out]; omega)
              obtain ⟨u, hu, hue⟩ := HTm.out _ hmm
              rw [hue] at hcj
              have hcu := HCS.out u (by omega)
              rw [List.getD_eq_getElem?_getD] at hcu
              have HU := Lib.hid (bKey_at (S := S) (i := u))
              have HUp := Lib.hid (HS.out.upto (q := j) (by rw [HTl.out]; omega))
              have HFr := Lib.hid (HS.out.from (q := j) (by rw [HTl.out]; omega))
              unfold Hid at HUp HFr
              rw [hue] at HUp HFr
              replace HUp := Lib.hid HUp
              replace HFr := Lib.hid HFr
              have bu := HB.out u
              obtain ⟨su, hsu⟩ : ∃ su, S[u]?.getD 0 = su := ⟨_, rfl⟩
              unfold Hid at HU
              rw [hsu] at hcu HU bu
              replace HU := Lib.hid HU
              clear hsu hue hmm
              have huI : (u : Int) < n := by omega
              have hjz : (j : Int) < z := by omega
              by_cases hlt2 : su < sk
              · have HGn := Lib.hid (show ∀ e ∈ T.drop j, bKey S k < bKey S e from fun e he => by have h1 := HFr.out e he; rw [HU.out] at h1; rw [HK.out]; omega)
                go_wp2
                go_quiet (fail)
                go_wp2
                go_roundw
                case rel =>
                  obtain ⟨y2, hy2⟩ := ext_ex (show Below W0.heap.size W0 ((ext W0 y').drewN nq) from by repeat (first | exact Below.refl _ _ | assumption | refine bExt ?_ _ | refine bAlloc ?_ _ | refine bDrewN ?_ _ | refine bDrew ?_ | refine bSet ?_ (by first | exact Nat.le_refl _ | omega | (simp; done) | (simp; omega)) _))
                  have oj2 := oj.below (bDrewN (Below.refl _ _) nq)
                  first | exact ⟨j, y2, by omega, by go_num, hy2, by rw [← hy2]; exact oj2, HGn⟩ | ((repeat apply Exists.intro); exact ⟨⟨j, y2, by omega, by go_num, hy2, by rw [← hy2]; exact oj2, HGn⟩, rfl⟩)
                case measure => simp [intOf]
              · have HIN := Lib.hid (Srt.insert (key := bKey S) (x := (k : Int)) (p := T.take (j + 1)) (s := T.drop (j + 1)) (by rw [List.take_append_drop]; exact HS.out) (fun e he => by have h1 := HUp.out e he; rw [HU.out] at h1; rw [HK.out]; omega) HG.out)
                have hd1 : (j : Int) + 1 ≤ q := by omega
                have hj00 : (0 : Int) ≤ (j : Int) + 1 := by omega
                have hk1 : (j : Int) + 1 ≤ z := by omega
                by_cases hjd : q = j + 1
                · have hjk : z = j + 1 := by omega
                  subst hjk
                  subst hjd
                  go_wp2
                  go_quiet (fail)
                  obtain ⟨y2, hy2⟩ := ext_ex (show Below W0.heap.size W0 ((ext W0 y').drewN nq) from by repeat (first | exact Below.refl _ _ | assumption | refine bExt ?_ _ | refine bAlloc ?_ _ | refine bDrewN ?_ _ | refine bDrew ?_ | refine bSet ?_ (by first | exact Nat.le_refl _ | omega | (simp; done) | (simp; omega)) _))
                  have oj2 := oj.below (bDrewN (Below.refl _ _) nq)
                  rw [hy2] at oj2 ⊢
                  clear hy2 oj
                  have hrd := oj2.rd
                  have hr1 := hrd.take_ (j + 1) (by omega)
                  have hr2 : RdI (ext W0 y2) (some ⟨g, 0, none⟩) 0 (T.drop (j + 1)) := by rw [List.drop_of_length_le (by rw [HTl.out]; exact Nat.le_refl _)]; exact RdI.nil_
                  have o0a := OwI.lit_ (Below.refl _ (ext W0 y2)) [] (by simp [maxLen]) #[] rfl
                  have o0b : OwI (ext W0 y2).heap.size (((ext W0 y2).alloc (.cells #[.int .i64 k] 3)).alloc (.cells #[] 3)) (some ⟨(ext W0 y2).heap.size + 1, 0, none⟩) 0 0 [] := by simpa using OwI.lit_ (bAlloc (Below.refl _ (ext W0 y2)) (.cells #[.int .i64 k] 3)) [] (by simp [maxLen]) #[] rfl
                  go_wp2
                  go_region_law (first
                    | (refine step_app_int (ext W0 y2) rfl _ _ rfl _ _ _ [] rfl o0a ?_ ?_ _ _ _ (T.take (j + 1)) rfl hr1 ?_ (by omega) ?_; (focus (repeat (first | exact Below.refl _ _ | assumption | refine bExt ?_ _ | refine bAlloc ?_ _ | refine bDrewN ?_ _ | refine bDrew ?_ | refine bSet ?_ (by first | exact Nat.le_refl _ | omega | (simp; done) | (simp; omega)) _))); (focus (repeat (first | exact Below.refl _ _ | assumption | refine bExt ?_ _ | refine bAlloc ?_ _ | refine bDrewN ?_ _ | refine bDrew ?_ | refine bSet ?_ (by first | exact Nat.le_refl _ | omega | (simp; done) | (simp; omega)) _))); (focus (repeat (first | exact Below.refl _ _ | assumption | refine bExt ?_ _ | refine bAlloc ?_ _ | refine bDrewN ?_ _ | refine bDrew ?_ | refine bSet ?_ (by first | exact Nat.le_refl _ | omega | (simp; done) | (simp; omega)) _))); intro A1 c1 y3 o1 hg1 hd1; rw [Nat.zero_add] at o1)
                    | (refine step_app_int (ext W0 y2) rfl _ _ rfl _ _ _ [] rfl o0b ?_ ?_ _ _ _ (T.take (j + 1)) rfl hr1 ?_ (by omega) ?_; (focus (repeat (first | exact Below.refl _ _ | assumption | refine bExt ?_ _ | refine bAlloc ?_ _ | refine bDrewN ?_ _ | refine bDrew ?_ | refine bSet ?_ (by first | exact Nat.le_refl _ | omega | (simp; done) | (simp; omega)) _))); (focus (repeat (first | exact Below.refl _ _ | assumption | refine bExt ?_ _ | refine bAlloc ?_ _ | refine bDrewN ?_ _ | refine bDrew ?_ | refine bSet ?_ (by first | exact Nat.le_refl _ | omega | (simp; done) | (simp; omega)) _))); (focus (repeat (first | exact Below.refl _ _ | assumption | refine bExt ?_ _ | refine bAlloc ?_ _ | refine bDrewN ?_ _ | refine bDrew ?_ | refine bSet ?_ (by first | exact Nat.le_refl _ | omega | (simp; done) | (simp; omega)) _))); intro A1 c1 y3 o1 hg1 hd1; rw [Nat.zero_add] at o1)
                    | (refine step_app_int (ext W0 y2) rfl _ _ rfl A1 _ c1 ([] ++ T.take (j + 1)) rfl o1 ?_ ?_ _ 1 1 [(k : Int)] rfl (RdI.one_ ?_ ?_) (Below.refl _ _) (by omega) ?_; (focus (repeat (first | exact Below.refl _ _ | assumption | refine bExt ?_ _ | refine bAlloc ?_ _ | refine bDrewN ?_ _ | refine bDrew ?_ | refine bSet ?_ (by first | exact Nat.le_refl _ | omega | (simp; done) | (simp; omega)) _))); (focus (repeat (first | exact Below.refl _ _ | assumption | refine bExt ?_ _ | refine bAlloc ?_ _ | refine bDrewN ?_ _ | refine bDrew ?_ | refine bSet ?_ (by first | exact Nat.le_refl _ | omega | (simp; done) | (simp; omega)) _))); (focus (simp [go_sem]; done)); (focus (simp [go_sem]; done)); intro A2 c2 y4 o2 hg2 hd2)
                    | (refine step_app_int (ext W0 y2) rfl _ _ rfl A1 _ c1 ([] ++ T.take (j + 1)) rfl o1 ?_ ?_ _ 1 1 [(k : Int)] rfl (RdI.one_ ?_ ?_) (Below.refl _ _) (by omega) ?_; (focus (repeat (first | exact Below.refl _ _ | assumption | refine bExt ?_ _ | refine bAlloc ?_ _ | refine bDrewN ?_ _ | refine bDrew ?_ | refine bSet ?_ (by first | exact Nat.le_refl _ | omega | (simp; done) | (simp; omega)) _))); (focus (repeat (first | exact Below.refl _ _ | assumption | refine bExt ?_ _ | refine bAlloc ?_ _ | refine bDrewN ?_ _ | refine bDrew ?_ | refine bSet ?_ (by first | exact Nat.le_refl _ | omega | (simp; done) | (simp; omega)) _))); (focus (first | (simp; done) | (have := hg1.size; simp at this ⊢; omega))); (focus (rw [grown_cell hg1 (by first | (simp; done) | (simp; omega)) (by simp [blkOf])]; simp [go_sem]; done)); intro A2 c2 y4 o2 hg2 hd2)
                    | (refine step_app_int (ext W0 y2) rfl _ _ rfl A2 _ c2 ([] ++ T.take (j + 1) ++ [(k : Int)]) rfl o2 ?_ ?_ _ _ _ (T.drop (j + 1)) rfl hr2 ?_ (by omega) ?_; (focus (repeat (first | exact Below.refl _ _ | assumption | refine bExt ?_ _ | refine bAlloc ?_ _ | refine bDrewN ?_ _ | refine bDrew ?_ | refine bSet ?_ (by first | exact Nat.le_refl _ | omega | (simp; done) | (simp; omega)) _))); (focus (repeat (first | exact Below.refl _ _ | assumption | refine bExt ?_ _ | refine bAlloc ?_ _ | refine bDrewN ?_ _ | refine bDrew ?_ | refine bSet ?_ (by first | exact Nat.le_refl _ | omega | (simp; done) | (simp; omega)) _))); (focus (repeat (first | exact Below.refl _ _ | assumption | refine bExt ?_ _ | refine bAlloc ?_ _ | refine bDrewN ?_ _ | refine bDrew ?_ | refine bSet ?_ (by first | exact Nat.le_refl _ | omega | (simp; done) | (simp; omega)) _))); intro A3 c3 y5 o3 hg3 hd3))
                  all_goals
                    go_wp2
                    obtain ⟨q3, hq⟩ := ext_ex (show Below W0.heap.size W0 (ext (ext W0 y2) y5) from by repeat (first | exact Below.refl _ _ | assumption | refine bExt ?_ _ | refine bAlloc ?_ _ | refine bDrewN ?_ _ | refine bDrew ?_ | refine bSet ?_ (by first | exact Nat.le_refl _ | omega | (simp; done) | (simp; omega)) _))
                    have o4 := o3.mono (ext_le W0 y2)
                    rw [show [] ++ T.take (j + 1) ++ [(k : Int)] ++ T.drop (j + 1) = T.take (j + 1) ++ (k : Int) :: T.drop (j + 1) by simp, hq] at o4
                    have hln := o4.len.symm.trans (show (T.take (j + 1) ++ (k : Int) :: T.drop (j + 1)).length = (j + 1) + 1 by have h1 := congrArg List.length (List.take_append_drop (j + 1) T); simp only [List.length_append, List.length_cons] at h1 ⊢; have := HTl.out; omega)
                    rw [hln] at o4
                    have o5 := o4
                    have Hln := Lib.hid hln
                    clear hln o4 o3 hg3 hd3 hg2 hd2 hg1 hd1 o1 o2
                    go_roundw
                    case rel => exact ⟨k + 1, _, A3, (j + 1) + 1, c3, q3, by omega, by go_num, congrArg (fun s => Value.slice A3 s c3) (by have := Hln.out; omega), hq, o5, HIN.out.1, HF2.out _ (by have := HIN.out.2; rw [List.take_append_drop] at this; exact this), fun h => by omega⟩
                    case measure => simp [intOf]; omega
                · have hjd' : ¬ (q : Int) = j + 1 := by omega
                  go_wp2
                  go_quiet (fail)
                  obtain ⟨y2, hy2⟩ := ext_ex (show Below W0.heap.size W0 ((ext W0 y').drewN nq) from by repeat (first | exact Below.refl _ _ | assumption | refine bExt ?_ _ | refine bAlloc ?_ _ | refine bDrewN ?_ _ | refine bDrew ?_ | refine bSet ?_ (by first | exact Nat.le_refl _ | omega | (simp; done) | (simp; omega)) _))
                  have oj2 := oj.below (bDrewN (Below.refl _ _) nq)
                  rw [hy2] at oj2 ⊢
                  clear hy2 oj
                  have hrd := oj2.rd
                  have hr1 := hrd.take_ (j + 1) (by omega)
                  have hr2 := hrd.drop_ (j + 1) (by omega)
                  rw [Nat.zero_add] at hr2
                  have o0a := OwI.lit_ (Below.refl _ (ext W0 y2)) [] (by simp [maxLen]) #[] rfl
                  have o0b : OwI (ext W0 y2).heap.size (((ext W0 y2).alloc (.cells #[.int .i64 k] 3)).alloc (.cells #[] 3)) (some ⟨(ext W0 y2).heap.size + 1, 0, none⟩) 0 0 [] := by simpa using OwI.lit_ (bAlloc (Below.refl _ (ext W0 y2)) (.cells #[.int .i64 k] 3)) [] (by simp [maxLen]) #[] rfl
                  go_wp2
                  go_region_law (first
                    | (refine step_app_int (ext W0 y2) rfl _ _ rfl _ _ _ [] rfl o0a ?_ ?_ _ _ _ (T.take (j + 1)) rfl hr1 ?_ (by omega) ?_; (focus (repeat (first | exact Below.refl _ _ | assumption | refine bExt ?_ _ | refine bAlloc ?_ _ | refine bDrewN ?_ _ | refine bDrew ?_ | refine bSet ?_ (by first | exact Nat.le_refl _ | omega | (simp; done) | (simp; omega)) _))); (focus (repeat (first | exact Below.refl _ _ | assumption | refine bExt ?_ _ | refine bAlloc ?_ _ | refine bDrewN ?_ _ | refine bDrew ?_ | refine bSet ?_ (by first | exact Nat.le_refl _ | omega | (simp; done) | (simp; omega)) _))); (focus (repeat (first | exact Below.refl _ _ | assumption | refine bExt ?_ _ | refine bAlloc ?_ _ | refine bDrewN ?_ _ | refine bDrew ?_ | refine bSet ?_ (by first | exact Nat.le_refl _ | omega | (simp; done) | (simp; omega)) _))); intro A1 c1 y3 o1 hg1 hd1; rw [Nat.zero_add] at o1)
                    | (refine step_app_int (ext W0 y2) rfl _ _ rfl _ _ _ [] rfl o0b ?_ ?_ _ _ _ (T.take (j + 1)) rfl hr1 ?_ (by omega) ?_; (focus (repeat (first | exact Below.refl _ _ | assumption | refine bExt ?_ _ | refine bAlloc ?_ _ | refine bDrewN ?_ _ | refine bDrew ?_ | refine bSet ?_ (by first | exact Nat.le_refl _ | omega | (simp; done) | (simp; omega)) _))); (focus (repeat (first | exact Below.refl _ _ | assumption | refine bExt ?_ _ | refine bAlloc ?_ _ | refine bDrewN ?_ _ | refine bDrew ?_ | refine bSet ?_ (by first | exact Nat.le_refl _ | omega | (simp; done) | (simp; omega)) _))); (focus (repeat (first | exact Below.refl _ _ | assumption | refine bExt ?_ _ | refine bAlloc ?_ _ | refine bDrewN ?_ _ | refine bDrew ?_ | refine bSet ?_ (by first | exact Nat.le_refl _ | omega | (simp; done) | (simp; omega)) _))); intro A1 c1 y3 o1 hg1 hd1; rw [Nat.zero_add] at o1)
                    | (refine step_app_int (ext W0 y2) rfl _ _ rfl A1 _ c1 ([] ++ T.take (j + 1)) rfl o1 ?_ ?_ _ 1 1 [(k : Int)] rfl (RdI.one_ ?_ ?_) (Below.refl _ _) (by omega) ?_; (focus (repeat (first | exact Below.refl _ _ | assumption | refine bExt ?_ _ | refine bAlloc ?_ _ | refine bDrewN ?_ _ | refine bDrew ?_ | refine bSet ?_ (by first | exact Nat.le_refl _ | omega | (simp; done) | (simp; omega)) _))); (focus (repeat (first | exact Below.refl _ _ | assumption | refine bExt ?_ _ | refine bAlloc ?_ _ | refine bDrewN ?_ _ | refine bDrew ?_ | refine bSet ?_ (by first | exact Nat.le_refl _ | omega | (simp; done) | (simp; omega)) _))); (focus (simp [go_sem]; done)); (focus (simp [go_sem]; done)); intro A2 c2 y4 o2 hg2 hd2)
                    | (refine step_app_int (ext W0 y2) rfl _ _ rfl A1 _ c1 ([] ++ T.take (j + 1)) rfl o1 ?_ ?_ _ 1 1 [(k : Int)] rfl (RdI.one_ ?_ ?_) (Below.refl _ _) (by omega) ?_; (focus (repeat (first | exact Below.refl _ _ | assumption | refine bExt ?_ _ | refine bAlloc ?_ _ | refine bDrewN ?_ _ | refine bDrew ?_ | refine bSet ?_ (by first | exact Nat.le_refl _ | omega | (simp; done) | (simp; omega)) _))); (focus (repeat (first | exact Below.refl _ _ | assumption | refine bExt ?_ _ | refine bAlloc ?_ _ | refine bDrewN ?_ _ | refine bDrew ?_ | refine bSet ?_ (by first | exact Nat.le_refl _ | omega | (simp; done) | (simp; omega)) _))); (focus (first | (simp; done) | (have := hg1.size; simp at this ⊢; omega))); (focus (rw [grown_cell hg1 (by first | (simp; done) | (simp; omega)) (by simp [blkOf])]; simp [go_sem]; done)); intro A2 c2 y4 o2 hg2 hd2)
                    | (refine step_app_int (ext W0 y2) rfl _ _ rfl A2 _ c2 ([] ++ T.take (j + 1) ++ [(k : Int)]) rfl o2 ?_ ?_ _ _ _ (T.drop (j + 1)) rfl hr2 ?_ (by omega) ?_; (focus (repeat (first | exact Below.refl _ _ | assumption | refine bExt ?_ _ | refine bAlloc ?_ _ | refine bDrewN ?_ _ | refine bDrew ?_ | refine bSet ?_ (by first | exact Nat.le_refl _ | omega | (simp; done) | (simp; omega)) _))); (focus (repeat (first | exact Below.refl _ _ | assumption | refine bExt ?_ _ | refine bAlloc ?_ _ | refine bDrewN ?_ _ | refine bDrew ?_ | refine bSet ?_ (by first | exact Nat.le_refl _ | omega | (simp; done) | (simp; omega)) _))); (focus (repeat (first | exact Below.refl _ _ | assumption | refine bExt ?_ _ | refine bAlloc ?_ _ | refine bDrewN ?_ _ | refine bDrew ?_ | refine bSet ?_ (by first | exact Nat.le_refl _ | omega | (simp; done) | (simp; omega)) _))); intro A3 c3 y5 o3 hg3 hd3))
                  all_goals
                    go_wp2
                    obtain ⟨q3, hq⟩ := ext_ex (show Below W0.heap.size W0 (ext (ext W0 y2) y5) from by repeat (first | exact Below.refl _ _ | assumption | refine bExt ?_ _ | refine bAlloc ?_ _ | refine bDrewN ?_ _ | refine bDrew ?_ | refine bSet ?_ (by first | exact Nat.le_refl _ | omega | (simp; done) | (simp; omega)) _))
                    have o4 := o3.mono (ext_le W0 y2)
                    rw [show [] ++ T.take (j + 1) ++ [(k : Int)] ++ T.drop (j + 1) = T.take (j + 1) ++ (k : Int) :: T.drop (j + 1) by simp, hq] at o4
                    have hln := o4.len.symm.trans (show (T.take (j + 1) ++ (k : Int) :: T.drop (j + 1)).length = z + 1 by have h1 := congrArg List.length (List.take_append_drop (j + 1) T); simp only [List.length_append, List.length_cons] at h1 ⊢; have := HTl.out; omega)
                    rw [hln] at o4
                    have o5 := o4
                    have Hln := Lib.hid hln
                    clear hln o4 o3 hg3 hd3 hg2 hd2 hg1 hd1 o1 o2
                    go_roundw
                    case rel => exact ⟨k + 1, _, A3, z + 1, c3, q3, by omega, by go_num, congrArg (fun s => Value.slice A3 s c3) (by have := Hln.out; omega), hq, o5, HIN.out.1, HF2.out _ (by have := HIN.out.2; rw [List.take_append_drop] at this; exact this), fun h => by omega⟩
                    case measure => simp [intOf]; omega
    · have hkn : k = n := by omega
      subst hkn
      go_wp2
      go_ret
      exact ⟨T, HS.out, HF.out, RetI.mk_ ho hBW.size (hBW.trans ((ext_below _ _).mono hBW.size))⟩
end Go.Proofs.Ytogglhgagblihaa
