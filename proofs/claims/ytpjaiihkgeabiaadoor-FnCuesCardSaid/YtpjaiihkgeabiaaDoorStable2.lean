/- The library's swapRange and rotate of ints. Conditions: lengths below 2^40. -/
import Derived.Test.YtpjaiihkgeabiaaDoorStable
set_option linter.unusedVariables false
set_option linter.unusedSimpArgs false
set_option maxRecDepth 100000
namespace Go.Proofs.YtpjaiihkgeabiaaDoor
open Go.RowKit
/-- Two ranges of equal length, the first i elements exchanged. -/
def swD (P X M Y S : List Int) (i : Nat) : List Int := P ++ (Y.take i ++ X.drop i) ++ M ++ (X.take i ++ Y.drop i) ++ S
section
variable {P X M Y S : List Int} {i k : Nat}
theorem swD_len (hx : X.length = k) (hy : Y.length = k) (hi : i ≤ k) : (swD P X M Y S i).length = P.length + k + M.length + k + S.length := by
  unfold swD; simp; omega
theorem swD_a (hx : X.length = k) (hy : Y.length = k) (hi : i < k) : (swD P X M Y S i)[P.length + i]?.getD 0 = X[i]?.getD 0 := by
  unfold swD
  rw [List.append_assoc, List.append_assoc, List.append_assoc, List.append_assoc, List.getElem?_append_right (by omega), List.getElem?_append_right (by simp; omega), List.getElem?_append_left (by simp; omega)]
  simp [show P.length + i - P.length = i by omega, show min i Y.length = i by omega]
theorem swD_b (hx : X.length = k) (hy : Y.length = k) (hi : i < k) : (swD P X M Y S i)[P.length + k + M.length + i]?.getD 0 = Y[i]?.getD 0 := by
  unfold swD
  rw [List.append_assoc, List.getElem?_append_right (by simp; omega)]
  rw [List.append_assoc, List.getElem?_append_right (by simp; omega), List.getElem?_append_left (by simp; omega)]
  have e : P.length + k + M.length + i - (P ++ (Y.take i ++ X.drop i) ++ M).length - (X.take i).length = 0 := by simp; omega
  rw [e]
  simp
theorem swD_step (hx : X.length = k) (hy : Y.length = k) (hi : i < k) : ((swD P X M Y S i).set (P.length + i) (Y[i]?.getD 0)).set (P.length + k + M.length + i) (X[i]?.getD 0) = swD P X M Y S (i + 1) := by
  have e1 : Y.take (i + 1) = Y.take i ++ [Y[i]?.getD 0] := take_succ_getD 0 Y i (by omega)
  have e2 : X.take (i + 1) = X.take i ++ [X[i]?.getD 0] := take_succ_getD 0 X i (by omega)
  have e3 : X.drop i = (X[i]?.getD 0) :: X.drop (i + 1) := by rw [List.drop_eq_getElem_cons (by omega)]; simp [show i < X.length by omega]
  have e4 : Y.drop i = (Y[i]?.getD 0) :: Y.drop (i + 1) := by rw [List.drop_eq_getElem_cons (by omega)]; simp [show i < Y.length by omega]
  unfold swD
  rw [e1, e2, e3, e4]
  have l1 : (P ++ Y.take i).length = P.length + i := by simp; omega
  have l2 : (X.drop (i + 1) ++ M ++ X.take i).length = k - (i + 1) + M.length + i := by simp; omega
  generalize X[i]?.getD 0 = x
  generalize Y[i]?.getD 0 = y
  rw [show P ++ (Y.take i ++ x :: X.drop (i + 1)) ++ M ++ (X.take i ++ y :: Y.drop (i + 1)) ++ S = (P ++ Y.take i) ++ (x :: ((X.drop (i + 1) ++ M ++ X.take i) ++ (y :: (Y.drop (i + 1) ++ S)))) by simp,
    show P ++ (Y.take i ++ [y] ++ X.drop (i + 1)) ++ M ++ (X.take i ++ [x] ++ Y.drop (i + 1)) ++ S = (P ++ Y.take i) ++ (y :: ((X.drop (i + 1) ++ M ++ X.take i) ++ (x :: (Y.drop (i + 1) ++ S)))) by simp]
  generalize P ++ Y.take i = A at l1 ⊢
  generalize X.drop (i + 1) ++ M ++ X.take i = B at l2 ⊢
  generalize Y.drop (i + 1) ++ S = C
  rw [List.set_append_right _ _ (by omega), l1, show P.length + i - (P.length + i) = 0 by omega, List.set_cons_zero, List.set_append_right _ _ (by omega), l1,
    show P.length + k + M.length + i - (P.length + i) = (k + M.length - 1) + 1 by omega, List.set_cons_succ, List.set_append_right _ _ (by omega), show k + M.length - 1 - B.length = 0 by omega, List.set_cons_zero]
end
end Go.Proofs.YtpjaiihkgeabiaaDoor
