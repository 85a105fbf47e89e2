/- The library's symMerge of cues: one element against a sorted range. Conditions: lengths below 2^40. -/
import Derived.Test.YtpjaiihkgeabiaaDoorStableC2
set_option linter.unusedVariables false
set_option linter.unusedSimpArgs false
set_option maxRecDepth 100000
namespace Go.Proofs.YtpjaiihkgeabiaaDoor
open Go.RowKit
section
variable {P T U : List T3} {x : T3} {q r : Nat} {key : T3 → Int}
theorem insT_above (hq : q ≤ r) (hr : r < T.length) : (insT P T x U q)[P.length + r + 1]?.getD z3 = T[r]?.getD z3 := by
  unfold insT
  rw [List.append_assoc, List.getElem?_append_right (by simp; omega)]
  have e : P.length + r + 1 - (P ++ T.take q).length = (r - q) + 1 := by simp; omega
  rw [e, List.cons_append, List.getElem?_cons_succ, List.getElem?_append_left (by simp; omega), List.getElem?_drop, show q + (r - q) = r by omega]
theorem insT_swapUp (hq : q < T.length) : ((insT P T x U q).set (P.length + q) (T[q]?.getD z3)).set (P.length + q + 1) x = insT P T x U (q + 1) := by
  have e1 : T.take (q + 1) = T.take q ++ [T[q]?.getD z3] := take_succ_getD z3 T q hq
  have e2 : T.drop q = (T[q]?.getD z3) :: T.drop (q + 1) := by rw [List.drop_eq_getElem_cons hq]; simp [hq]
  have hl : (P ++ T.take q).length = P.length + q := by simp; omega
  unfold insT
  rw [e1, e2]
  generalize T[q]?.getD z3 = y
  rw [show P ++ (T.take q ++ [y]) ++ x :: T.drop (q + 1) ++ U = (P ++ T.take q) ++ (y :: x :: (T.drop (q + 1) ++ U)) by simp,
    show P ++ T.take q ++ x :: (y :: T.drop (q + 1)) ++ U = (P ++ T.take q) ++ (x :: y :: (T.drop (q + 1) ++ U)) by simp]
  rw [List.set_append_right _ _ (by omega), List.set_append_right _ _ (by omega), hl]
  simp [show P.length + q + 1 - (P.length + q) = 1 by omega]
theorem Srt.uptoC (h : Srt key T) (hq : q < T.length) : ∀ z ∈ T.take (q + 1), key z ≤ key (T[q]?.getD z3) := fun z hz => by
  obtain ⟨u, hu, rfl⟩ := List.mem_iff_getElem.1 hz
  simp only [List.length_take] at hu
  by_cases e : u = q
  · subst e; simp [hq]
  · have := (List.pairwise_iff_getElem.1 h) u q (by omega) hq (by omega)
    simpa [hq] using this
theorem Srt.fromC (h : Srt key T) (hq : q < T.length) : ∀ z ∈ T.drop q, key (T[q]?.getD z3) ≤ key z := fun z hz => by
  obtain ⟨u, hu, rfl⟩ := List.mem_iff_getElem.1 hz
  simp only [List.length_drop] at hu
  by_cases e : u = 0
  · subst e; simp [hq]
  · have := (List.pairwise_iff_getElem.1 h) q (q + u) hq (by omega) (by omega)
    simpa [hq] using this
/-- x put into a sorted list ahead of all that are not smaller. -/
theorem Srt.insertLC {p s : List T3} (h : Srt key (p ++ s)) (hp : ∀ y ∈ p, key y < key x) (hs : ∀ y ∈ s, key x ≤ key y) : Srt key (p ++ x :: s) ∧ SF key (p ++ x :: s) ([x] ++ (p ++ s)) := by
  obtain ⟨h1, h2, h3⟩ := h.parts
  constructor
  · refine Srt.append h1 (List.pairwise_cons.2 ⟨hs, h2⟩) (fun a ha b hb => ?_)
    rcases List.mem_cons.1 hb with e | hb
    · subst e; have := hp a ha; omega
    · exact h3 a ha b hb
  · have : SF key (p ++ [x]) ([x] ++ p) := SF.swap (fun a ha b hb => by
      simp at ha; subst ha
      have := hp b hb; omega)
    have := this.append (SF.refl s)
    simpa [List.append_assoc] using this
end
set_option maxHeartbeats 2000000 in
theorem symLC_any (w : World) (base g n c : Nat) (P Y S : List T3) (x : T3) (a m b : Nat) (key : T3 → Int) (p : Addr) (ho : OwC base w (some ⟨g, 0, none⟩) n c (insT P Y x S 0)) (hn : n ≤ 1099511627776) (ha : P.length = a) (hm : m = a + 1) (hb : m + Y.length = b) (hY : Srt key Y) (hC : CmpC key (insT P Y x S 0)) :
    Calls Tryd.prog 126 #[.slice (some ⟨g, 0, none⟩) n c, .int .i64 a, .int .i64 m, .int .i64 b, .func (.func 101) #[] #[]] w fun e w' => e = .returned (.tuple #[]) ∧ ∃ T, Srt key T ∧ SF key T ([x] ++ Y) ∧ OwC base w' (some ⟨g, 0, none⟩) n c (P ++ T ++ S) ∧ w.grownBy w' (some g) := by
  have hl := ho.len
  rw [insT_len] at hl
  have hxm : x ∈ insT P Y x S 0 := by simp [insT]
  have hYm : ∀ r, r < Y.length → Y[r]?.getD z3 ∈ insT P Y x S 0 := fun r hr => by
    have := getD_mem z3 Y r hr
    simp [insT, this]
  have hbn : b ≤ n := by omega
  have h2 : (m : Int) - a = 1 := by omega
  have hm1 : m ≤ a + 1 := by omega
  have hm2 : a + 1 ≤ m := by omega
  clear hm
  have HY := Lib.hid hY
  go_enter Tryd.func126, Tryd.ntmps126
  go_wp2
  go_loopw [10, 11] (fun s t wr => ∃ i j : Nat, (m ≤ i ∧ i ≤ j ∧ j ≤ b) ∧ s = .int .i64 i ∧ t = .int .i64 j ∧ Hid (∀ y ∈ Y.take (i - m), key y < key x) ∧ Hid (∀ y ∈ Y.drop (j - m), key x ≤ key y) ∧ OwC base wr (some ⟨g, 0, none⟩) n c (insT P Y x S 0) ∧ w.grownBy wr (some g)) (fun s t _ => (intOf t).toNat - (intOf s).toNat)
  case atStart => exact ⟨m, b, by omega, rfl, rfl, fun y hy => by simp at hy, fun y hy => by rw [List.drop_of_length_le (by omega)] at hy; simp at hy, ho, World.grownBy.refl _ _⟩
  case round =>
    obtain ⟨i, j, ⟨hmi, hij, hjb⟩, rfl, rfl, HLo, HHi, oi, hgi⟩ := hrel
    by_cases hlt : i < j
    · obtain ⟨h, hh⟩ : ∃ h, (i + j) / 2 = h := ⟨_, rfl⟩
      have hhI : ((i : Int) + j) / 2 = (h : Int) := by omega
      have hb1 : i ≤ h ∧ h < j := by omega
      clear hh
      have hr : h - m < Y.length := by omega
      have c0 := oi.cell_ a (by omega)
      have c1 := oi.cell_ h (by omega)
      have e0 := insT_at (P := P) (T := Y) (U := S) (x := x) (q := 0) (by omega)
      rw [ha, Nat.add_zero] at e0
      have e1 := insT_above (P := P) (T := Y) (U := S) (x := x) (q := 0) (r := h - m) (by omega) hr
      rw [ha, show a + (h - m) + 1 = h by omega] at e1
      rw [e0] at c0
      rw [e1] at c1
      have cc := fun w' => hC w' (Y[h - m]?.getD z3) x (hYm _ hr) hxm
      have HU := Lib.hid (HY.out.uptoC hr)
      have HFr := Lib.hid (HY.out.fromC hr)
      clear e0 e1
      generalize Y[h - m]?.getD z3 = y at *
      obtain ⟨c0, c0b, c0c⟩ := c0
      obtain ⟨c1, c1b, c1c⟩ := c1
      have haI : (a : Int) < n := by omega
      have hhN : (h : Int) < n := by omega
      by_cases hyx : key y < key x
      · have hok := hyx
        have HLn := Lib.hid (show ∀ z ∈ Y.take (h + 1 - m), key z < key x from fun z hz => by
          rw [show h + 1 - m = h - m + 1 by omega] at hz
          have := HU.out z hz; omega)
        go_wp2
        go_still_tail 9, (by kernel_rfl)
        change wpList _ _ _ _ _ (World.drew _)
        go_wp2_with ((go_at_call 101; ((with_reducible refine (cc _).mono ?_); rintro e w' ⟨rv, hr, rfl, xq, rfl⟩; (have hv := hr.1 hok))))
        go_wp2
        go_roundw
        case rel => exact ⟨h + 1, j, by omega, by go_num, rfl, HLn, HHi, oi.after xq, grown_after hgi xq⟩
        case measure => simp [intOf]; omega
      · have hge : key x ≤ key y := by omega
        have HHn := Lib.hid (show ∀ z ∈ Y.drop (h - m), key x ≤ key z from fun z hz => by have := HFr.out z hz; omega)
        go_wp2
        go_still_tail 9, (by kernel_rfl)
        change wpList _ _ _ _ _ (World.drew _)
        go_wp2_with ((go_at_call 101; ((with_reducible refine (cc _).mono ?_); rintro e w' ⟨rv, hr, rfl, xq, rfl⟩; (have hv := hr.2 hge))))
        go_wp2
        go_roundw
        case rel =>
          have okk := oi.after xq
          have hgk := grown_after hgi xq
          first | exact ⟨i, h, by omega, rfl, rfl, HLo, HHn, okk, hgk⟩ | ((repeat apply Exists.intro); exact ⟨⟨i, h, by omega, rfl, rfl, HLo, HHn, okk, hgk⟩, rfl⟩)
        case measure => simp [intOf]; omega
    · obtain rfl : i = j := by omega
      have HIN := Lib.hid (Srt.insertLC (key := key) (x := x) (p := Y.take (i - m)) (s := Y.drop (i - m)) (by rw [List.take_append_drop]; exact HY.out) HLo.out HHi.out)
      go_wp2
      go_loopw [13] (fun t wr => ∃ k : Nat, (a ≤ k ∧ k + 1 ≤ i) ∧ t = .int .i64 k ∧ OwC base wr (some ⟨g, 0, none⟩) n c (insT P Y x S (k - a)) ∧ w.grownBy wr (some g)) (fun t _ => i - (intOf t).toNat)
      case atStart => exact ⟨a, by omega, rfl, by rw [Nat.sub_self]; exact oi, hgi⟩
      case round =>
        obtain ⟨k, ⟨hak, hki⟩, rfl, ok, hgk⟩ := hrel
        by_cases hlt2 : k + 1 < i
        · have hq : k - a < Y.length := by omega
          have c0 := ok.cell_ k (by omega)
          have c1 := ok.cell_ (k + 1) (by omega)
          have e0 := insT_at (P := P) (T := Y) (U := S) (x := x) (q := k - a) (by omega)
          rw [ha, show a + (k - a) = k by omega] at e0
          have e1 := insT_above (P := P) (T := Y) (U := S) (x := x) (q := k - a) (r := k - a) (Nat.le_refl _) hq
          have e2 := insT_swapUp (P := P) (U := S) (x := x) hq
          rw [ha, show a + (k - a) = k by omega] at e1 e2
          rw [show k - a + 1 = k + 1 - a by omega] at e2
          rw [e0] at c0
          rw [e1] at c1
          have f0 := ok.frozen_ (k * 3)
          have f0b := ok.frozen_ (k * 3 + 1)
          have f0c := ok.frozen_ (k * 3 + 2)
          have f1 := ok.frozen_ ((k + 1) * 3)
          have f1b := ok.frozen_ ((k + 1) * 3 + 1)
          have f1c := ok.frozen_ ((k + 1) * 3 + 2)
          have s1 := ok.storedC k (by omega) (Y[k - a]?.getD z3)
          have s2 := s1.1.storedC (k + 1) (by omega) x
          rw [e2] at s2
          have S1 := Lib.hid s1.2
          have S2 := Lib.hid s2
          clear s1 s2 e0 e1 e2
          generalize Y[k - a]?.getD z3 = y at *
          obtain ⟨c0, c0b, c0c⟩ := c0
          obtain ⟨c1, c1b, c1c⟩ := c1
          have hap0 : ¬ k * 3 = (k + 1) * 3 := by omega
          have haq0 : ¬ (k + 1) * 3 = k * 3 := by omega
          have hap1 : ¬ k * 3 = (k + 1) * 3 + 1 := by omega
          have haq1 : ¬ (k + 1) * 3 + 1 = k * 3 := by omega
          have hap2 : ¬ k * 3 = (k + 1) * 3 + 2 := by omega
          have haq2 : ¬ (k + 1) * 3 + 2 = k * 3 := by omega
          have hap3 : ¬ k * 3 + 1 = (k + 1) * 3 := by omega
          have haq3 : ¬ (k + 1) * 3 = k * 3 + 1 := by omega
          have hap4 : ¬ k * 3 + 1 = (k + 1) * 3 + 1 := by omega
          have haq4 : ¬ (k + 1) * 3 + 1 = k * 3 + 1 := by omega
          have hap5 : ¬ k * 3 + 1 = (k + 1) * 3 + 2 := by omega
          have haq5 : ¬ (k + 1) * 3 + 2 = k * 3 + 1 := by omega
          have hap6 : ¬ k * 3 + 2 = (k + 1) * 3 := by omega
          have haq6 : ¬ (k + 1) * 3 = k * 3 + 2 := by omega
          have hap7 : ¬ k * 3 + 2 = (k + 1) * 3 + 1 := by omega
          have haq7 : ¬ (k + 1) * 3 + 1 = k * 3 + 2 := by omega
          have hap8 : ¬ k * 3 + 2 = (k + 1) * 3 + 2 := by omega
          have haq8 : ¬ (k + 1) * 3 + 2 = k * 3 + 2 := by omega
          have hw1 : IntKind.i64.wrap ((k : Int) + 1) = (k : Int) + 1 := IntWalk.i64_in _ (by omega)
          have hkI : (k : Int) < (i : Int) - 1 := by omega
          have hkN : (k : Int) < n := by omega
          have hkN1 : (k : Int) + 1 < n := by omega
          have hk0 : (0 : Int) ≤ (k : Int) + 1 := by omega
          go_wp2
          go_region
          all_goals go_wp2
          go_roundw
          case rel =>
            have hgf := (hgk.trans S1.out).trans S2.out.2
            exact ⟨k + 1, by omega, by go_num, S2.out.1.below (bDrew (Below.refl _ _)), gDrew hgf⟩
          case measure => simp [intOf]; omega
        · have hkI : ¬ (k : Int) < (i : Int) - 1 := by omega
          have hki2 : k - a = i - m := by omega
          go_wp2
          refine bodyPost_ret (v := .tuple #[]) (by simp [results, Tryd.results126, go_sem]) rfl ?_
          refine ⟨rfl, _, HIN.out.1, ?_, ?_, hgk⟩
          · have := HIN.out.2; rw [List.take_append_drop] at this; exact this
          · rw [hki2] at ok
            have e : insT P Y x S (i - m) = P ++ (Y.take (i - m) ++ x :: Y.drop (i - m)) ++ S := by simp [insT]
            rw [e] at ok; first | exact ok | simpa [List.append_assoc] using ok
set_option maxHeartbeats 2000000 in
theorem symRC_any (w : World) (base g n c : Nat) (P X S : List T3) (x : T3) (a m b : Nat) (key : T3 → Int) (p : Addr) (ho : OwC base w (some ⟨g, 0, none⟩) n c (insT P X x S X.length)) (hn : n ≤ 1099511627776) (ha : P.length = a) (hm : a + X.length = m) (hb : b = m + 1) (hX1 : X.length ≠ 1) (hX : Srt key X) (hC : CmpC key (insT P X x S X.length)) :
    Calls Tryd.prog 126 #[.slice (some ⟨g, 0, none⟩) n c, .int .i64 a, .int .i64 m, .int .i64 b, .func (.func 101) #[] #[]] w fun e w' => e = .returned (.tuple #[]) ∧ ∃ T, Srt key T ∧ SF key T (X ++ [x]) ∧ OwC base w' (some ⟨g, 0, none⟩) n c (P ++ T ++ S) ∧ w.grownBy w' (some g) := by
  have hl := ho.len
  rw [insT_len] at hl
  have hxm : x ∈ insT P X x S X.length := by simp [insT]
  have hXm : ∀ r, r < X.length → X[r]?.getD z3 ∈ insT P X x S X.length := fun r hr => by
    have := getD_mem z3 X r hr
    simp [insT, this]
  have hne : ((m : Int) - a == 1) = false := by simp; omega
  have h2 : (b : Int) - m = 1 := by omega
  have hb1 : b ≤ m + 1 := by omega
  have hb2 : m + 1 ≤ b := by omega
  have hm1 : X.length ≤ m - a := by omega
  have hm2 : m - a ≤ X.length := by omega
  have ham : a ≤ m := by omega
  have HM := Lib.hid hm
  have HX := Lib.hid hX
  clear hb hm hX1
  go_enter Tryd.func126, Tryd.ntmps126
  go_wp2
  go_loopw [14, 15] (fun s t wr => ∃ i j : Nat, (a ≤ i ∧ i ≤ j ∧ j ≤ m) ∧ s = .int .i64 i ∧ t = .int .i64 j ∧ Hid (∀ y ∈ X.take (i - a), key y ≤ key x) ∧ Hid (∀ y ∈ X.drop (j - a), key x < key y) ∧ OwC base wr (some ⟨g, 0, none⟩) n c (insT P X x S X.length) ∧ w.grownBy wr (some g)) (fun s t _ => (intOf t).toNat - (intOf s).toNat)
  case atStart => exact ⟨a, m, by omega, rfl, rfl, fun y hy => by simp at hy, fun y hy => by rw [List.drop_of_length_le (by omega)] at hy; simp at hy, ho, World.grownBy.refl _ _⟩
  case round =>
    obtain ⟨i, j, ⟨hai, hij, hjm⟩, rfl, rfl, HLo, HHi, oi, hgi⟩ := hrel
    by_cases hlt : i < j
    · obtain ⟨h, hh⟩ : ∃ h, (i + j) / 2 = h := ⟨_, rfl⟩
      have hhI : ((i : Int) + j) / 2 = (h : Int) := by omega
      have hbb : i ≤ h ∧ h < j := by omega
      clear hh
      have hr : h - a < X.length := by omega
      have c0 := oi.cell_ m (by omega)
      have c1 := oi.cell_ h (by omega)
      have e0 := insT_at (P := P) (T := X) (U := S) (x := x) (q := X.length) (Nat.le_refl _)
      rw [ha, HM.out] at e0
      have e1 : (insT P X x S X.length)[h]?.getD z3 = X[h - a]?.getD z3 := by
        unfold insT
        rw [List.take_of_length_le (Nat.le_refl _), List.append_assoc, List.append_assoc, List.getElem?_append_right (by omega), List.getElem?_append_left (by omega), ha]
      rw [e0] at c0
      rw [e1] at c1
      have cc := fun w' => hC w' x (X[h - a]?.getD z3) hxm (hXm _ hr)
      have HU := Lib.hid (HX.out.uptoC hr)
      have HFr := Lib.hid (HX.out.fromC hr)
      clear e0 e1
      generalize X[h - a]?.getD z3 = y at *
      obtain ⟨c0, c0b, c0c⟩ := c0
      obtain ⟨c1, c1b, c1c⟩ := c1
      have haI : (m : Int) < n := by omega
      have hhN : (h : Int) < n := by omega
      by_cases hyx : key x < key y
      · have hok := hyx
        have HHn := Lib.hid (show ∀ z ∈ X.drop (h - a), key x < key z from fun z hz => by have := HFr.out z hz; omega)
        go_wp2
        go_still_tail 9, (by kernel_rfl)
        change wpList _ _ _ _ _ (World.drew _)
        go_wp2_with ((go_at_call 101; ((with_reducible refine (cc _).mono ?_); rintro e w' ⟨rv, hr, rfl, xq, rfl⟩; (have hv := hr.1 hok); (have hv4 : (0 ≤ rv) = False := propext ⟨fun h => by omega, False.elim⟩))))
        go_wp2
        go_roundw
        case rel =>
          have okk := oi.after xq
          have hgk := grown_after hgi xq
          first | exact ⟨i, h, by omega, rfl, rfl, HLo, HHn, okk, hgk⟩ | ((repeat apply Exists.intro); exact ⟨⟨i, h, by omega, rfl, rfl, HLo, HHn, okk, hgk⟩, rfl⟩)
        case measure => simp [intOf]; omega
      · have hge : key y ≤ key x := by omega
        have HLn := Lib.hid (show ∀ z ∈ X.take (h + 1 - a), key z ≤ key x from fun z hz => by
          rw [show h + 1 - a = h - a + 1 by omega] at hz
          have := HU.out z hz; omega)
        go_wp2
        go_still_tail 9, (by kernel_rfl)
        change wpList _ _ _ _ _ (World.drew _)
        go_wp2_with ((go_at_call 101; ((with_reducible refine (cc _).mono ?_); rintro e w' ⟨rv, hr, rfl, xq, rfl⟩; (have hv := hr.2 hge); (have hv4 : decide (rv < 0) = false := by simp; omega))))
        go_wp2
        go_roundw
        case rel =>
          have okk := oi.after xq
          have hgk := grown_after hgi xq
          first | exact ⟨h + 1, j, by omega, by go_num, rfl, HLn, HHi, okk, hgk⟩ | ((repeat apply Exists.intro); exact ⟨⟨h + 1, j, by omega, by go_num, rfl, HLn, HHi, okk, hgk⟩, rfl⟩)
        case measure => simp [intOf]; omega
    · obtain rfl : i = j := by omega
      have HIN := Lib.hid (Srt.insert (key := key) (x := x) (p := X.take (i - a)) (s := X.drop (i - a)) (by rw [List.take_append_drop]; exact HX.out) HLo.out HHi.out)
      go_wp2
      go_loopw [17] (fun t wr => ∃ k : Nat, (i ≤ k ∧ k ≤ m) ∧ t = .int .i64 k ∧ OwC base wr (some ⟨g, 0, none⟩) n c (insT P X x S (k - a)) ∧ w.grownBy wr (some g)) (fun t _ => (intOf t).toNat)
      case atStart => exact ⟨m, by omega, rfl, by rw [show m - a = X.length by omega]; exact oi, hgi⟩
      case round =>
        obtain ⟨k, ⟨hik, hkm⟩, rfl, ok, hgk⟩ := hrel
        by_cases hlt2 : i < k
        · obtain ⟨u, rfl⟩ : ∃ u, k = u + 1 := ⟨k - 1, by omega⟩
          have hq : u - a < X.length := by omega
          have c1 := ok.cell_ (u + 1) (by omega)
          have c0 := ok.cell_ u (by omega)
          have e1 := insT_at (P := P) (T := X) (U := S) (x := x) (q := u + 1 - a) (by omega)
          rw [ha, show a + (u + 1 - a) = u + 1 by omega] at e1
          have e0 := insT_below (P := P) (T := X) (U := S) (x := x) (q := u - a) hq
          have e2 := insT_swap (P := P) (U := S) (x := x) hq
          rw [ha, show a + (u - a) = u by omega, show u - a + 1 = u + 1 - a by omega] at e0 e2
          rw [e1] at c1
          rw [e0] at c0
          have f0 := ok.frozen_ (u * 3)
          have f0b := ok.frozen_ (u * 3 + 1)
          have f0c := ok.frozen_ (u * 3 + 2)
          have f1 := ok.frozen_ ((u + 1) * 3)
          have f1b := ok.frozen_ ((u + 1) * 3 + 1)
          have f1c := ok.frozen_ ((u + 1) * 3 + 2)
          have s1 := ok.storedC (u + 1) (by omega) (X[u - a]?.getD z3)
          have s2 := s1.1.storedC u (by omega) x
          rw [e2] at s2
          have S1 := Lib.hid s1.2
          have S2 := Lib.hid s2
          clear s1 s2 e0 e1 e2
          generalize X[u - a]?.getD z3 = y at *
          obtain ⟨c0, c0b, c0c⟩ := c0
          obtain ⟨c1, c1b, c1c⟩ := c1
          have hap0 : ¬ u * 3 = (u + 1) * 3 := by omega
          have haq0 : ¬ (u + 1) * 3 = u * 3 := by omega
          have hap1 : ¬ u * 3 = (u + 1) * 3 + 1 := by omega
          have haq1 : ¬ (u + 1) * 3 + 1 = u * 3 := by omega
          have hap2 : ¬ u * 3 = (u + 1) * 3 + 2 := by omega
          have haq2 : ¬ (u + 1) * 3 + 2 = u * 3 := by omega
          have hap3 : ¬ u * 3 + 1 = (u + 1) * 3 := by omega
          have haq3 : ¬ (u + 1) * 3 = u * 3 + 1 := by omega
          have hap4 : ¬ u * 3 + 1 = (u + 1) * 3 + 1 := by omega
          have haq4 : ¬ (u + 1) * 3 + 1 = u * 3 + 1 := by omega
          have hap5 : ¬ u * 3 + 1 = (u + 1) * 3 + 2 := by omega
          have haq5 : ¬ (u + 1) * 3 + 2 = u * 3 + 1 := by omega
          have hap6 : ¬ u * 3 + 2 = (u + 1) * 3 := by omega
          have haq6 : ¬ (u + 1) * 3 = u * 3 + 2 := by omega
          have hap7 : ¬ u * 3 + 2 = (u + 1) * 3 + 1 := by omega
          have haq7 : ¬ (u + 1) * 3 + 1 = u * 3 + 2 := by omega
          have hap8 : ¬ u * 3 + 2 = (u + 1) * 3 + 2 := by omega
          have haq8 : ¬ (u + 1) * 3 + 2 = u * 3 + 2 := by omega
          have hkI : (i : Int) < (u : Int) + 1 := by omega
          have hkN : (u : Int) < n := by omega
          have hkN1 : (u : Int) + 1 < n := by omega
          have hk0 : (0 : Int) ≤ (u : Int) + 1 := by omega
          go_wp2
          go_region
          all_goals go_wp2
          go_roundw
          case rel =>
            have hgf := (hgk.trans S1.out).trans S2.out.2
            exact ⟨u, by omega, by go_num, S2.out.1.below (bDrew (Below.refl _ _)), gDrew hgf⟩
          case measure => simp [intOf]
        · have hkI : ¬ (i : Int) < (k : Int) := by omega
          obtain rfl : k = i := by omega
          go_wp2
          refine bodyPost_ret (v := .tuple #[]) (by simp [results, Tryd.results126, go_sem]) rfl ?_
          refine ⟨rfl, _, HIN.out.1, ?_, ?_, hgk⟩
          · have := HIN.out.2; rw [List.take_append_drop] at this; exact this
          · have e : insT P X x S (k - a) = P ++ (X.take (k - a) ++ x :: X.drop (k - a)) ++ S := by simp [insT]
            rw [e] at ok; first | exact ok | simpa [List.append_assoc] using ok
end Go.Proofs.YtpjaiihkgeabiaaDoor
