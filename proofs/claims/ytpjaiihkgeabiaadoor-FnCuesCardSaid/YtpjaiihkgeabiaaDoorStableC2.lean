/- The library's swapRange and rotate of cues. Conditions: lengths below 2^40. -/
import Derived.Test.YtpjaiihkgeabiaaDoorStableC
set_option linter.unusedVariables false
set_option linter.unusedSimpArgs false
set_option maxRecDepth 100000
namespace Go.Proofs.YtpjaiihkgeabiaaDoor
open Go.RowKit
/-- Two ranges of equal length, the first i elements exchanged. -/
def swT (P X M Y S : List T3) (i : Nat) : List T3 := P ++ (Y.take i ++ X.drop i) ++ M ++ (X.take i ++ Y.drop i) ++ S
section
variable {P X M Y S : List T3} {i k : Nat}
theorem swT_len (hx : X.length = k) (hy : Y.length = k) (hi : i ≤ k) : (swT P X M Y S i).length = P.length + k + M.length + k + S.length := by
  unfold swT; simp; omega
theorem swT_a (hx : X.length = k) (hy : Y.length = k) (hi : i < k) : (swT P X M Y S i)[P.length + i]?.getD z3 = X[i]?.getD z3 := by
  unfold swT
  rw [List.append_assoc, List.append_assoc, List.append_assoc, List.append_assoc, List.getElem?_append_right (by omega), List.getElem?_append_right (by simp; omega), List.getElem?_append_left (by simp; omega)]
  simp [show P.length + i - P.length = i by omega, show min i Y.length = i by omega]
theorem swT_b (hx : X.length = k) (hy : Y.length = k) (hi : i < k) : (swT P X M Y S i)[P.length + k + M.length + i]?.getD z3 = Y[i]?.getD z3 := by
  unfold swT
  rw [List.append_assoc, List.getElem?_append_right (by simp; omega)]
  rw [List.append_assoc, List.getElem?_append_right (by simp; omega), List.getElem?_append_left (by simp; omega)]
  have e : P.length + k + M.length + i - (P ++ (Y.take i ++ X.drop i) ++ M).length - (X.take i).length = 0 := by simp; omega
  rw [e]
  simp
theorem swT_step (hx : X.length = k) (hy : Y.length = k) (hi : i < k) : ((swT P X M Y S i).set (P.length + i) (Y[i]?.getD z3)).set (P.length + k + M.length + i) (X[i]?.getD z3) = swT P X M Y S (i + 1) := by
  have e1 : Y.take (i + 1) = Y.take i ++ [Y[i]?.getD z3] := take_succ_getD z3 Y i (by omega)
  have e2 : X.take (i + 1) = X.take i ++ [X[i]?.getD z3] := take_succ_getD z3 X i (by omega)
  have e3 : X.drop i = (X[i]?.getD z3) :: X.drop (i + 1) := by rw [List.drop_eq_getElem_cons (by omega)]; simp [show i < X.length by omega]
  have e4 : Y.drop i = (Y[i]?.getD z3) :: Y.drop (i + 1) := by rw [List.drop_eq_getElem_cons (by omega)]; simp [show i < Y.length by omega]
  unfold swT
  rw [e1, e2, e3, e4]
  have l1 : (P ++ Y.take i).length = P.length + i := by simp; omega
  have l2 : (X.drop (i + 1) ++ M ++ X.take i).length = k - (i + 1) + M.length + i := by simp; omega
  generalize X[i]?.getD z3 = x
  generalize Y[i]?.getD z3 = y
  rw [show P ++ (Y.take i ++ x :: X.drop (i + 1)) ++ M ++ (X.take i ++ y :: Y.drop (i + 1)) ++ S = (P ++ Y.take i) ++ (x :: ((X.drop (i + 1) ++ M ++ X.take i) ++ (y :: (Y.drop (i + 1) ++ S)))) by simp,
    show P ++ (Y.take i ++ [y] ++ X.drop (i + 1)) ++ M ++ (X.take i ++ [x] ++ Y.drop (i + 1)) ++ S = (P ++ Y.take i) ++ (y :: ((X.drop (i + 1) ++ M ++ X.take i) ++ (x :: (Y.drop (i + 1) ++ S)))) by simp]
  generalize P ++ Y.take i = A at l1 ⊢
  generalize X.drop (i + 1) ++ M ++ X.take i = B at l2 ⊢
  generalize Y.drop (i + 1) ++ S = C
  rw [List.set_append_right _ _ (by omega), l1, show P.length + i - (P.length + i) = 0 by omega, List.set_cons_zero, List.set_append_right _ _ (by omega), l1,
    show P.length + k + M.length + i - (P.length + i) = (k + M.length - 1) + 1 by omega, List.set_cons_succ, List.set_append_right _ _ (by omega), show k + M.length - 1 - B.length = 0 by omega, List.set_cons_zero]
end
set_option maxHeartbeats 1000000 in
theorem swapRangeC_any (w : World) (base g n c : Nat) (d P X M Y S : List T3) (a b k : Nat) (v : Value) (ho : OwC base w (some ⟨g, 0, none⟩) n c d) (hn : n ≤ 1099511627776) (hd : d = P ++ X ++ M ++ Y ++ S) (ha : P.length = a) (hx : X.length = k) (hy : Y.length = k) (hb : a + k + M.length = b) :
    Calls Tryd.prog 141 #[.slice (some ⟨g, 0, none⟩) n c, .int .i64 a, .int .i64 b, .int .i64 k, v] w fun e w' => e = .returned (.tuple #[]) ∧ OwC base w' (some ⟨g, 0, none⟩) n c (P ++ Y ++ M ++ X ++ S) ∧ w.grownBy w' (some g) := by
  have hl := ho.len
  have hln : a + k + M.length + k + S.length = n := by rw [← hl, hd]; simp; omega
  have o0 : OwC base w (some ⟨g, 0, none⟩) n c (swT P X M Y S 0) := by rw [hd] at ho; simpa [swT] using ho
  have HE := Lib.hid (show swT P X M Y S k = P ++ Y ++ M ++ X ++ S by unfold swT; rw [List.take_of_length_le (by omega), List.drop_of_length_le (by omega), List.take_of_length_le (by omega), List.drop_of_length_le (by omega)]; simp)
  have HS := fun i (hi : i < k) => swT_step (P := P) (M := M) (S := S) hx hy hi
  have HA := fun i (hi : i < k) => swT_a (P := P) (M := M) (S := S) hx hy hi
  have HB := fun i (hi : i < k) => swT_b (P := P) (M := M) (S := S) hx hy hi
  simp only [ha, hb] at HS HA HB
  have HS := Lib.hid HS
  have HA := Lib.hid HA
  have HB := Lib.hid HB
  clear ho hd
  generalize swT P X M Y S = D at *
  have hab : a ≤ b := by omega
  have hbk : b + k ≤ n := by omega
  have hne : 0 < k → a ≠ b := by omega
  clear hb hln ha hx hy hl
  go_enter Tryd.func141, Tryd.ntmps141
  go_wp2
  go_loopw [10] (fun t wr => ∃ i : Nat, i ≤ k ∧ t = .int .i64 i ∧ OwC base wr (some ⟨g, 0, none⟩) n c (D i) ∧ w.grownBy wr (some g)) (fun t _ => k - (intOf t).toNat)
  case atStart => exact ⟨0, by omega, rfl, o0, World.grownBy.refl _ _⟩
  case round =>
    obtain ⟨i, hik, rfl, oi, hgi⟩ := hrel
    by_cases hlt : i < k
    · have c1 := oi.cell_ (a + i) (by omega)
      have c2 := oi.cell_ (b + i) (by omega)
      rw [HA.out i hlt] at c1
      rw [HB.out i hlt] at c2
      have f1 := oi.frozen_ ((a + i) * 3)
      have f1b := oi.frozen_ ((a + i) * 3 + 1)
      have f1c := oi.frozen_ ((a + i) * 3 + 2)
      have f2 := oi.frozen_ ((b + i) * 3)
      have f2b := oi.frozen_ ((b + i) * 3 + 1)
      have f2c := oi.frozen_ ((b + i) * 3 + 2)
      have s1 := oi.storedC (a + i) (by omega) (Y[i]?.getD z3)
      have s2 := s1.1.storedC (b + i) (by omega) (X[i]?.getD z3)
      rw [HS.out i hlt] at s2
      have S1 := Lib.hid s1.2
      have S2 := Lib.hid s2
      clear s1 s2
      generalize X[i]?.getD z3 = x at *
      generalize Y[i]?.getD z3 = y at *
      obtain ⟨c1, c1b, c1c⟩ := c1
      obtain ⟨c2, c2b, c2c⟩ := c2
      have hn1 : ¬ a = b := hne (by omega)
      have hap0 : ¬ (a + i) * 3 = (b + i) * 3 := by omega
      have haq0 : ¬ (b + i) * 3 = (a + i) * 3 := by omega
      have hap1 : ¬ (a + i) * 3 = (b + i) * 3 + 1 := by omega
      have haq1 : ¬ (b + i) * 3 + 1 = (a + i) * 3 := by omega
      have hap2 : ¬ (a + i) * 3 = (b + i) * 3 + 2 := by omega
      have haq2 : ¬ (b + i) * 3 + 2 = (a + i) * 3 := by omega
      have hap3 : ¬ (a + i) * 3 + 1 = (b + i) * 3 := by omega
      have haq3 : ¬ (b + i) * 3 = (a + i) * 3 + 1 := by omega
      have hap4 : ¬ (a + i) * 3 + 1 = (b + i) * 3 + 1 := by omega
      have haq4 : ¬ (b + i) * 3 + 1 = (a + i) * 3 + 1 := by omega
      have hap5 : ¬ (a + i) * 3 + 1 = (b + i) * 3 + 2 := by omega
      have haq5 : ¬ (b + i) * 3 + 2 = (a + i) * 3 + 1 := by omega
      have hap6 : ¬ (a + i) * 3 + 2 = (b + i) * 3 := by omega
      have haq6 : ¬ (b + i) * 3 = (a + i) * 3 + 2 := by omega
      have hap7 : ¬ (a + i) * 3 + 2 = (b + i) * 3 + 1 := by omega
      have haq7 : ¬ (b + i) * 3 + 1 = (a + i) * 3 + 2 := by omega
      have hap8 : ¬ (a + i) * 3 + 2 = (b + i) * 3 + 2 := by omega
      have haq8 : ¬ (b + i) * 3 + 2 = (a + i) * 3 + 2 := by omega
      have hn1 : ¬ a = b := hne (by omega)
      have hn2 : ¬ b = a := fun h => hn1 h.symm
      have hw1 : IntKind.i64.wrap ((a : Int) + i) = ((a + i : Nat) : Int) := by rw [IntWalk.i64_in _ (by omega)]; omega
      have hw2 : IntKind.i64.wrap ((b : Int) + i) = ((b + i : Nat) : Int) := by rw [IntWalk.i64_in _ (by omega)]; omega
      have hi1 : ((a + i : Nat) : Int) < n := by omega
      have hi2 : ((b + i : Nat) : Int) < n := by omega
      have hi3 : (a : Int) + i < n := by omega
      have hi4 : (b : Int) + i < n := by omega
      have hi5 : (0 : Int) ≤ (a : Int) + i := by omega
      have hi6 : (0 : Int) ≤ (b : Int) + i := by omega
      go_wp2
      go_region
      all_goals go_wp2
      go_roundw
      case rel =>
        have hgf := (hgi.trans S1.out).trans S2.out.2
        exact ⟨i + 1, by omega, by go_num, S2.out.1.below (bDrew (Below.refl _ _)), gDrew hgf⟩
      case measure => simp [intOf]; omega
    · have hik2 : i = k := by omega
      subst hik2
      go_wp2
      go_end0
      exact ⟨rfl, by rw [← HE.out]; exact oi, hgi⟩
set_option maxHeartbeats 1000000 in
theorem rotateC_any (w : World) (base g n c : Nat) (d P X Y S : List T3) (a m b : Nat) (v : Value) (ho : OwC base w (some ⟨g, 0, none⟩) n c d) (hn : n ≤ 1099511627776) (hd : d = P ++ X ++ Y ++ S) (ha : P.length = a) (hx : a + X.length = m) (hy : m + Y.length = b) (hx0 : 0 < X.length) (hy0 : 0 < Y.length) :
    Calls Tryd.prog 133 #[.slice (some ⟨g, 0, none⟩) n c, .int .i64 a, .int .i64 m, .int .i64 b, v] w fun e w' => e = .returned (.tuple #[]) ∧ OwC base w' (some ⟨g, 0, none⟩) n c (P ++ Y ++ X ++ S) ∧ w.grownBy w' (some g) := by
  have hl := ho.len
  have hbn : b ≤ n := by rw [← hl, hd]; simp; omega
  go_enter Tryd.func133, Tryd.ntmps133
  go_wp2
  go_loopw [10, 11] (fun s t wr => ∃ (i j : Nat) (P' X' Y' S' : List T3), (0 < i ∧ i ≤ m ∧ 0 < j ∧ m + j ≤ n) ∧ s = .int .i64 i ∧ t = .int .i64 j ∧ Hid (X'.length = i) ∧ Hid (Y'.length = j) ∧ Hid (P'.length = m - i) ∧ Hid (P' ++ Y' ++ X' ++ S' = P ++ Y ++ X ++ S) ∧ OwC base wr (some ⟨g, 0, none⟩) n c (P' ++ X' ++ Y' ++ S') ∧ w.grownBy wr (some g)) (fun s t _ => (intOf s).toNat + (intOf t).toNat)
  case atStart =>
    refine ⟨m - a, b - m, P, X, Y, S, by omega, by congr 1; omega, by congr 1; omega, by show _ = _; omega, by show _ = _; omega, by show _ = _; omega, rfl, by rw [← hd]; exact ho, World.grownBy.refl _ _⟩
  case round =>
    obtain ⟨i, j, P', X', Y', S', ⟨hi0, him, hj0, hmj⟩, rfl, rfl, HX, HY, HP, HT, oi, hgi⟩ := hrel
    clear hd ho
    have hmi : ((m : Int) - i) = ((m - i : Nat) : Int) := by omega
    by_cases hij : i = j
    · subst hij
      have cs := swapRangeC_any wr base g n c _ P' X' [] Y' S' (m - i) m i v oi hn (by simp) HP.out HX.out HY.out (by simp; omega)
      go_wp2_with (first | (go_at_call 141; ((with_reducible refine (cs).mono ?_); rintro e w' ⟨rfl, o2, hg2⟩)))
      go_end0
      refine ⟨rfl, ?_, hgi.trans hg2⟩
      rw [← HT.out]
      simpa using o2
    · have hne : ((i : Int) != (j : Int)) = true := by simp; omega
      by_cases hgt : j < i
      · have cs := swapRangeC_any wr base g n c _ P' (X'.take j) (X'.drop j) Y' S' (m - i) m j v oi hn (by simp) HP.out (by rw [List.length_take, HX.out]; omega) HY.out (by rw [List.length_drop, HX.out]; omega)
        have hgI : (j : Int) < i := by omega
        go_wp2_with (first | (go_at_call 141; ((with_reducible refine (cs).mono ?_); rintro e w' ⟨rfl, o2, hg2⟩)))
        go_roundw
        case rel =>
          refine ⟨i - j, j, P' ++ Y', X'.drop j, X'.take j, S', by omega, by congr 1; omega, rfl, by show _ = _; rw [List.length_drop, HX.out], by show _ = _; rw [List.length_take, HX.out]; omega, by show _ = _; rw [List.length_append, HP.out, HY.out]; omega, ?_, o2, hgi.trans hg2⟩
          show _ = _
          rw [← HT.out]
          simp [List.take_append_drop]
        case measure => simp [intOf]; omega
      · have cs := swapRangeC_any wr base g n c _ P' X' (Y'.take (j - i)) (Y'.drop (j - i)) S' (m - i) (m + j - i) i v oi hn (by simp) HP.out HX.out (by rw [List.length_drop, HY.out]; omega) (by rw [List.length_take, HY.out]; omega)
        have hmj2 : ((m : Int) + j - i) = ((m + j - i : Nat) : Int) := by omega
        have hgI : ¬ (j : Int) < i := by omega
        go_wp2_with (first | (go_at_call 141; ((with_reducible refine (cs).mono ?_); rintro e w' ⟨rfl, o2, hg2⟩)))
        go_roundw
        case rel =>
          refine ⟨i, j - i, P', Y'.drop (j - i), Y'.take (j - i), X' ++ S', by omega, rfl, by congr 1; omega, by show _ = _; rw [List.length_drop, HY.out]; omega, by show _ = _; rw [List.length_take, HY.out]; omega, HP, ?_, by simpa using o2, hgi.trans hg2⟩
          show _ = _
          rw [← HT.out]
          simp [List.take_append_drop]
        case measure => simp [intOf]; omega
end Go.Proofs.YtpjaiihkgeabiaaDoor
