/- Performances as text, in bytes; plain. Conditions: none. -/
import Derived.Test.YtfmidngndddfiaaGreatDoorTextJ
import Derived.Test.YtfmidngndddfiaaGreatDoorMarksP
import Derived.Test.YtfmidngndddfiaaGreatDoorSlip
import Derived.Test.YtfmidngndddfiaaGreatDoorZLines
import Derived.Test.YtfmidngndddfiaaGreatDoorBld
import Derived.Test.YtfmidngndddfiaaGreatDoorMarksC
import Derived.Test.YtfmidngndddfiaaGreatDoorZTots
set_option linter.unusedVariables false
set_option linter.unusedSimpArgs false
set_option maxRecDepth 100000
namespace Go.Proofs.YtfmidngndddfiaaGreatDoor
/-- A number that may be negative, in decimal. -/
def intS (n : Int) : ByteArray := if n < 0 then ⟨#[45]⟩ ++ numS (-n) else numS n
theorem intS_pos {n : Int} (h : 0 ≤ n) : intS n = numS n := if_neg (by omega)
theorem intS_size {n : Int} (h0 : -100000 < n) (h1 : n < 100000) : (intS n).size ≤ 6 := by
  unfold intS
  split
  · have := numS_size 4 (-n) (by omega) (by omega)
    rw [ByteArray.size_append]
    have : ByteArray.size ⟨#[45]⟩ = 1 := rfl
    omega
  · have := numS_size 4 n (by omega) (by omega)
    omega
def numF (l : List Int) (k : Nat) : ByteArray := intS (l[k]?.getD 0)
/-- Numbers in a row. -/
def numsS (l : List Int) : ByteArray := joinTo ⟨#[32]⟩ (numF l) l.length
/-- Rows of numbers that the texts write: one to nine of them, small. -/
def RowG (l : List Int) : Prop := (1 ≤ l.length ∧ l.length ≤ 9) ∧ ∀ x ∈ l, -100000 < x ∧ x < 100000
theorem RowG.at {l : List Int} (h : RowG l) {k : Nat} (hk : k < l.length) : -100000 < l[k]?.getD 0 ∧ l[k]?.getD 0 < 100000 := h.2 _ (getD_mem 0 l k hk)
theorem numsTo_size {l : List Int} (h : RowG l) (k : Nat) (hk : k ≤ l.length) : (joinTo ⟨#[32]⟩ (numF l) k).size ≤ 63 := by
  have := joinTo_size (sep := ⟨#[32]⟩) (f := numF l) (s := 1) (b := 6) (Nat.le_refl 1) k (fun j hj => by
    have := h.at (k := j) (by omega)
    exact intS_size this.1 this.2)
  have := h.1
  omega
theorem numsS_size {l : List Int} (h : RowG l) : (numsS l).size ≤ 63 := numsTo_size h _ (Nat.le_refl _)
/-- s and, behind it, the numbers of l, a space ahead of each. -/
def rowA (s : ByteArray) (l : List Int) : Nat → ByteArray
  | 0 => s
  | k + 1 => rowA s l k ++ (⟨#[32]⟩ ++ numF l k)
theorem rowA_join (s : ByteArray) (l : List Int) : ∀ k, rowA s l (k + 1) = s ++ ⟨#[32]⟩ ++ joinTo ⟨#[32]⟩ (numF l) (k + 1)
  | 0 => by rw [rowA, rowA, joinTo_1]; simp only [ByteArray.append_assoc]
  | k + 1 => by
    rw [rowA, rowA_join s l k, joinTo.eq_2 ⟨#[32]⟩ (numF l) (k + 1), if_pos (by omega)]; simp only [ByteArray.append_assoc]
theorem rowA_all (s : ByteArray) {l : List Int} (h : RowG l) : rowA s l l.length = s ++ ⟨#[32]⟩ ++ numsS l := by
  obtain ⟨k, hk⟩ : ∃ k, l.length = k + 1 := ⟨l.length - 1, by have := h.1; omega⟩
  rw [numsS, hk, rowA_join]
theorem rowA_size {s : ByteArray} {l : List Int} (h : RowG l) : ∀ k, k ≤ l.length → (rowA s l k).size ≤ s.size + 7 * k
  | 0, _ => by simp [rowA]
  | k + 1, hk => by
    have ih := rowA_size (s := s) h k (by omega)
    have h2 := h.at (k := k) (by omega)
    have h3 : (numF l k).size ≤ 6 := intS_size h2.1 h2.2
    rw [rowA, ByteArray.size_append, ByteArray.size_append]
    have : ByteArray.size ⟨#[32]⟩ = 1 := rfl
    omega
/-- s and, behind it, lines of numbers that begin with c. -/
def rowsA (c s : ByteArray) (L : List (List Int)) : Nat → ByteArray
  | 0 => s
  | k + 1 => rowA (rowsA c s L k ++ c) (L[k]?.getD []) (L[k]?.getD []).length ++ ⟨#[10]⟩
def RowsG (L : List (List Int)) : Prop := ∀ k, k < L.length → RowG (L[k]?.getD [])
theorem rowsA_line (c s : ByteArray) {L : List (List Int)} (h : RowsG L) (k : Nat) (hk : k < L.length) : rowsA c s L (k + 1) = rowsA c s L k ++ (c ++ ⟨#[32]⟩ ++ numsS (L[k]?.getD []) ++ ⟨#[10]⟩) := by
  rw [rowsA, rowA_all _ (h k hk)]
  simp only [ByteArray.append_assoc]
theorem rowsA_size {c s : ByteArray} {L : List (List Int)} (hc : c.size = 1) (h : RowsG L) : ∀ k, k ≤ L.length → (rowsA c s L k).size ≤ s.size + 66 * k
  | 0, _ => by simp [rowsA]
  | k + 1, hk => by
    have ih := rowsA_size (s := s) hc h k (by omega)
    have h2 := numsS_size (h k (by omega))
    rw [rowsA_line c s h k (by omega)]
    simp only [ByteArray.size_append]
    have : ByteArray.size ⟨#[32]⟩ = 1 := rfl
    have : ByteArray.size ⟨#[10]⟩ = 1 := rfl
    omega
/-- The marks as text. -/
def marksS (gg kk : List (List Int)) : ByteArray := rowsA ⟨#[99]⟩ (rowsA ⟨#[103]⟩ ByteArray.empty gg gg.length) kk kk.length
theorem marks_rows {gg kk : List (List Int)} (h : marksB gg kk = true) : RowsG gg ∧ RowsG kk := by
  have hm := marksB_of h
  constructor
  · intro k hk
    have h2 := hm.2.2.2 k hk
    refine ⟨by rw [h2.1]; have := hm.2.2.1; omega, fun x hx => ?_⟩
    have := h2.2 x hx
    omega
  · intro k hk
    have h2 := h
    simp only [marksB, Bool.and_eq_true] at h2
    have := List.all_eq_true.1 h2.2.1.2 _ (getD_mem [] kk k hk)
    simp only [cRowB, Bool.and_eq_true, decide_eq_true_eq] at this
    refine ⟨by rw [this.1]; have := hm.2.2.1; omega, fun x hx => ?_⟩
    have := List.all_eq_true.1 this.2 x hx
    simp only [compB, Bool.and_eq_true] at this
    have := inB_iff.1 this.1
    omega
theorem marksS_size {gg kk : List (List Int)} (hg : RowsG gg) (hk : RowsG kk) : (marksS gg kk).size ≤ 66 * gg.length + 66 * kk.length := by
  have h1 := rowsA_size (c := ⟨#[103]⟩) (s := ByteArray.empty) rfl hg gg.length (Nat.le_refl _)
  have h2 := rowsA_size (c := ⟨#[99]⟩) (s := rowsA ⟨#[103]⟩ ByteArray.empty gg gg.length) rfl hk kk.length (Nat.le_refl _)
  have : ByteArray.empty.size = 0 := rfl
  unfold marksS
  omega
theorem row_three {a b c : Int} (ha : -100000 < a ∧ a < 100000) (hb : -100000 < b ∧ b < 100000) (hc : -100000 < c ∧ c < 100000) : RowG [a, b, c] := ⟨by simp, fun x hx => by simp at hx; rcases hx with rfl | rfl | rfl <;> assumption⟩
theorem row_two {a b : Int} (ha : -100000 < a ∧ a < 100000) (hb : -100000 < b ∧ b < 100000) : RowG [a, b] := ⟨by simp, fun x hx => by simp at hx; rcases hx with rfl | rfl <;> assumption⟩
theorem numsS_three (a b c : Int) : numsS [a, b, c] = intS a ++ ⟨#[32]⟩ ++ intS b ++ ⟨#[32]⟩ ++ intS c := by
  simp [numsS, joinTo, numF]
theorem numsS_two (a b : Int) : numsS [a, b] = intS a ++ ⟨#[32]⟩ ++ intS b := by
  simp [numsS, joinTo, numF]
end Go.Proofs.YtfmidngndddfiaaGreatDoor
namespace Go.Proofs.YtfmidngndddfiaaGreatDoor
open Go.RowKit
/-- strconv.Itoa at any number. -/
theorem itoa_int (n : Int) (w : World) (h0 : -9223372036854775808 ≤ n) (h1 : n ≤ 9223372036854775807) (hT : Tab w) :
    Calls Tryz.prog 63 #[.int .i64 n] w fun e w' => e = .returned (.string (intS n)) ∧ ∃ x, w' = ext w x := by
  refine (Tryz.strconv_Itoa n (by omega) h1 w hT).mono ?_
  rintro e w' ⟨rfl, k, os, rfl⟩
  refine ⟨ret_str ?_, ext_ex (Lib.below_grow w.heap.size w (Nat.le_refl _) k os)⟩
  unfold intS numS Lib.itoa
  by_cases h : n < 0
  · rw [if_pos h, if_pos h, show (-n).toNat = n.natAbs by omega]
    apply ByteArray.ext
    simp
  · rw [if_neg h, if_neg h]
theorem l1Int_any (n : Int) (w : World) (h0 : -100000 < n) (h1 : n < 100000) :
    Calls Tryz.prog 108 #[.int .i64 n] w fun e w' => e = .returned (.string (intS n)) ∧ ∃ x, w' = ext w x := by
  by_cases hn : n < 0
  · have HV : Hid (intS n = ⟨#[45]⟩ ++ numS (-n)) := Lib.hid (if_pos hn)
    have hz := numS_size 4 (-n) (by omega) (by omega)
    have f1 : Fit ((⟨#[45]⟩ : ByteArray) ++ numS (-n)) := by unfold Fit; rw [ByteArray.size_append]; have : ByteArray.size (⟨#[45]⟩ : ByteArray) = 1 := rfl; omega
    have e1 : IntKind.i64.wrap (-n) = -n := IntWalk.i64_in _ (by omega)
    have c1 := fun W => l1Num_fuel 4 (-n) W (by omega) (by omega) (by omega) (by omega)
    clear hz
    go_enter Tryz.func108, Tryz.ntmps108
    go_wp2_with ((go_at_call 53; ((with_reducible refine (c1 _).mono ?_); rintro e w' ⟨rfl, x1, rfl⟩)))
    go_ret
    exact ⟨ret_str (by rw [HV.out]), ext_ex (by repeat (first | exact Below.refl _ _ | assumption | refine bExt ?_ _ | refine bAlloc ?_ _ | refine bDrewN ?_ _ | refine bDrew ?_ | refine bSet ?_ (by first | exact Nat.le_refl _ | omega | (simp; done) | (simp; omega)) _))⟩
  · have HV : Hid (intS n = numS n) := Lib.hid (if_neg hn)
    have c1 := fun W => l1Num_fuel 4 n W (by omega) (by omega) (by omega) (by omega)
    go_enter Tryz.func108, Tryz.ntmps108
    go_wp2_with ((go_at_call 53; ((with_reducible refine (c1 _).mono ?_); rintro e w' ⟨rfl, x1, rfl⟩)))
    go_ret
    exact ⟨ret_str (by rw [HV.out]), ext_ex (by repeat (first | exact Below.refl _ _ | assumption | refine bExt ?_ _ | refine bAlloc ?_ _ | refine bDrewN ?_ _ | refine bDrew ?_ | refine bSet ?_ (by first | exact Nat.le_refl _ | omega | (simp; done) | (simp; omega)) _))⟩
set_option maxHeartbeats 2000000 in
theorem numbersText_any (w : World) (A : Option Addr) (n c : Nat) (l : List Int) (ha : RdI w A n l) (hl : RowG l) (hT : Tab w) :
    Calls Tryz.prog 76 #[.slice A n c] w fun e w' => e = .returned (.string (numsS l)) ∧ ∃ y, w' = ext w y := by
  have Hl := Lib.hid ha.len
  have hz := numsS_size hl
  have hnn := hl.1
  rw [Hl.out] at hnn
  have hat : ∀ k, k < n → -100000 < l[k]?.getD 0 ∧ l[k]?.getD 0 < 100000 := fun k hk => hl.at (by rw [Hl.out]; exact hk)
  have HV : Hid (numsS l = joinTo ⟨#[32]⟩ (numF l) n) := by unfold Hid numsS; rw [Hl.out]
  rw [HV.out] at hz
  clear hl
  go_enter Tryz.func76, Tryz.ntmps76
  go_wp2
  go_loopw [3, 5, 9] (fun t _ i wr => ∃ (k : Nat) (D : Option Addr) (dc : Nat) (y : World), k ≤ n ∧ i = .int .i64 k ∧ t = .slice D k dc ∧ wr = ext w y ∧ OwT w.heap.size (ext w y) D k dc (wordsF (numF l) k)) (fun _ _ i _ => n - (intOf i).toNat)
  case atStart =>
    obtain ⟨y, hy⟩ := ext_ex (bAlloc (Below.refl w.heap.size w) (.cells #[] 9))
    have o0 := OwT.lit_ (Below.refl w.heap.size w) [] (by simp [maxLen]) #[] rfl
    rw [hy] at o0
    exact ⟨0, _, 0, y, by omega, rfl, rfl, hy, by simpa [wordsF] using o0⟩
  case round =>
    obtain ⟨k, D, dc, y, hk, rfl, rfl, rfl, ho⟩ := hrel
    by_cases hlt : k < n
    · obtain ⟨b, off, rfl, hb, hc⟩ := ha.open_ (by omega)
      have hck := hc k hlt
      rw [List.getD_eq_getElem?_getD] at hck
      have hv := hat k hlt
      have HW : Hid (wordsF (numF l) (k + 1) = wordsF (numF l) k ++ [intS (l[k]?.getD 0)]) := wordsF_succ (numF l) k
      have hkb : k ≤ 1099511627776 := by omega
      clear hc hz hat
      generalize l[k]?.getD 0 = v at *
      generalize wordsF (numF l) k = ws at *
      have cp := fun W (h : Below w.heap.size w W) => itoa_int v W (by omega) (by omega) (hT.below h)
      clear hT
      go_wp2_with (first | (go_at_call 63; ((with_reducible refine (cp _ (by repeat (first | exact Below.refl _ _ | assumption | refine bExt ?_ _ | refine bAlloc ?_ _ | refine bDrewN ?_ _ | refine bDrew ?_ | refine bSet ?_ (by first | exact Nat.le_refl _ | omega | (simp; done) | (simp; omega)) _))).mono ?_); rintro e w' ⟨rfl, x, rfl⟩)) | (at_builtin; (refine wpl_push_strJ w _ _ _ ?_ rfl _ _ rfl D k dc _ rfl ho ?_ ?_ rfl hkb ?_); (focus (first | rfl | (simp; done))); (focus (repeat (first | exact Below.refl _ _ | assumption | refine bExt ?_ _ | refine bAlloc ?_ _ | refine bDrewN ?_ _ | refine bDrew ?_ | refine bSet ?_ (by first | exact Nat.le_refl _ | omega | (simp; done) | (simp; omega)) _))); (focus (repeat (first | exact Below.refl _ _ | assumption | refine bExt ?_ _ | refine bAlloc ?_ _ | refine bDrewN ?_ _ | refine bDrew ?_ | refine bSet ?_ (by first | exact Nat.le_refl _ | omega | (simp; done) | (simp; omega)) _))); intro D' c' y' ho' hg hd))
      go_roundw
      case rel => exact ⟨k + 1, D', c', y', by omega, by go_num, rfl, rfl, by rw [HW.out]; exact ho'⟩
      case measure => simp [intOf]; omega
    · obtain rfl : k = n := by omega
      have hj := fun W (h : Below (ext w y).heap.size (ext w y) W) => joinW_any W _ D k dc (numF l) ⟨#[32]⟩ (ho.below h) (by omega) (by omega) (by omega)
      clear hz hat
      generalize joinTo ⟨#[32]⟩ (numF l) k = s at *
      go_wp2_with ((go_at_call 98; ((with_reducible refine (hj _ (by repeat (first | exact Below.refl _ _ | assumption | refine bExt ?_ _ | refine bAlloc ?_ _ | refine bDrewN ?_ _ | refine bDrew ?_ | refine bSet ?_ (by first | exact Nat.le_refl _ | omega | (simp; done) | (simp; omega)) _))).mono ?_); rintro e w' ⟨rfl, x, rfl⟩)))
      go_ret
      exact ⟨ret_str (by rw [HV.out]), ext_ex (by repeat (first | exact Below.refl _ _ | assumption | refine bExt ?_ _ | refine bAlloc ?_ _ | refine bDrewN ?_ _ | refine bDrew ?_ | refine bSet ?_ (by first | exact Nat.le_refl _ | omega | (simp; done) | (simp; omega)) _))⟩
/-- The slips as text. -/
def slipS (a b c : Int) : ByteArray := numsS [a, b, c]
set_option maxHeartbeats 2000000 in
theorem slipsText_any (a b c : Int) (w : World) (hg : slipB a b c = true) (hr : RowG [a, b, c]) (hT : Tab w) :
    Calls Tryz.prog 78 #[.agg #[.int .i64 a, .int .i64 b, .int .i64 c]] w (RetSK w (slipS a b c) true) := by
  have cs := fun W => areSlips_any a b c W
  rw [hg] at cs
  have cn := fun W A c1 (h1 : RdI W A 3 [a, b, c]) (h : Below w.heap.size w W) => numbersText_any W A 3 c1 [a, b, c] h1 hr (hT.below h)
  have HV : Hid (slipS a b c = numsS [a, b, c]) := rfl
  clear hg hr hT
  generalize numsS [a, b, c] = so at *
  go_enter Tryz.func78, Tryz.ntmps78
  go_wp2_with (first | (go_at_call 60; ((with_reducible refine (cs _).mono ?_); rintro e w' ⟨rfl, y1, rfl⟩)) | (go_at_call 76; ((with_reducible refine (cn _ _ _ (RdI.three_ (by simp [go_sem]) (by simp [go_sem]) (by simp [go_sem]) (by simp [go_sem])) (by repeat (first | exact Below.refl _ _ | assumption | refine bExt ?_ _ | refine bAlloc ?_ _ | refine bDrewN ?_ _ | refine bDrew ?_ | refine bSet ?_ (by first | exact Nat.le_refl _ | omega | (simp; done) | (simp; omega)) _))).mono ?_); rintro e w' ⟨rfl, y2, rfl⟩)))
  go_ret2
  exact RetSK.mk_ (by rw [HV.out]) rfl (by repeat (first | exact Below.refl _ _ | assumption | refine bExt ?_ _ | refine bAlloc ?_ _ | refine bDrewN ?_ _ | refine bDrew ?_ | refine bSet ?_ (by first | exact Nat.le_refl _ | omega | (simp; done) | (simp; omega)) _))
set_option maxHeartbeats 2000000 in
theorem dcText_any (a b c : Int) (w : World) (ha : 0 ≤ a ∧ a < 100000) (hb : 0 ≤ b ∧ b < 100000) (hc : 0 ≤ c ∧ c < 100000) :
    Calls Tryz.prog 74 #[.agg #[.int .i64 a, .int .i64 b, .int .i64 c]] w fun e w' => e = .returned (.string (slipS a b c)) ∧ ∃ y, w' = ext w y := by
  have c1 := fun W => l1Num_fuel 4 a W (by omega) (by omega) (by omega) (by omega)
  have c2 := fun W => l1Num_fuel 4 b W (by omega) (by omega) (by omega) (by omega)
  have c3 := fun W => l1Num_fuel 4 c W (by omega) (by omega) (by omega) (by omega)
  have z1 := numS_size 4 a (by omega) (by omega)
  have z2 := numS_size 4 b (by omega) (by omega)
  have z3 := numS_size 4 c (by omega) (by omega)
  have HV : Hid (slipS a b c = numS a ++ ⟨#[32]⟩ ++ numS b ++ ⟨#[32]⟩ ++ numS c) := by unfold Hid slipS; rw [numsS_three, intS_pos ha.1, intS_pos hb.1, intS_pos hc.1]
  have zs : ByteArray.size (⟨#[32]⟩ : ByteArray) = 1 := rfl
  have f1 : Fit (numS a ++ (⟨#[32]⟩ : ByteArray)) := by unfold Fit; simp only [ByteArray.size_append]; omega
  have f2 : Fit (numS a ++ (⟨#[32]⟩ : ByteArray) ++ numS b) := by unfold Fit; simp only [ByteArray.size_append]; omega
  have f3 : Fit (numS a ++ (⟨#[32]⟩ : ByteArray) ++ numS b ++ (⟨#[32]⟩ : ByteArray)) := by unfold Fit; simp only [ByteArray.size_append]; omega
  have f4 : Fit (numS a ++ (⟨#[32]⟩ : ByteArray) ++ numS b ++ (⟨#[32]⟩ : ByteArray) ++ numS c) := by unfold Fit; simp only [ByteArray.size_append]; omega
  clear z1 z2 z3 zs
  have hR : (w.alloc (.cells #[.int .i64 a, .int .i64 b, .int .i64 c] 44)).cell? ⟨w.heap.size, 0, none⟩ = some (.int .i64 a) ∧ (w.alloc (.cells #[.int .i64 a, .int .i64 b, .int .i64 c] 44)).cell? ⟨w.heap.size, 1, none⟩ = some (.int .i64 b) ∧ (w.alloc (.cells #[.int .i64 a, .int .i64 b, .int .i64 c] 44)).cell? ⟨w.heap.size, 2, none⟩ = some (.int .i64 c) := by refine ⟨?_, ?_, ?_⟩ <;> first | assumption | simp [*, go_sem]
  have hS := fun (W : World) (h : Below (w.alloc (.cells #[.int .i64 a, .int .i64 b, .int .i64 c] 44)).heap.size (w.alloc (.cells #[.int .i64 a, .int .i64 b, .int .i64 c] 44)) W) => (⟨(h.cell (p := ⟨w.heap.size, 0, none⟩) (by first | assumption | (simp [go_sem]; done) | (simp [go_sem]; omega))).trans hR.1, (h.cell (p := ⟨w.heap.size, 1, none⟩) (by first | assumption | (simp [go_sem]; done) | (simp [go_sem]; omega))).trans hR.2.1, (h.cell (p := ⟨w.heap.size, 2, none⟩) (by first | assumption | (simp [go_sem]; done) | (simp [go_sem]; omega))).trans hR.2.2⟩ : W.cell? ⟨w.heap.size, 0, none⟩ = some (.int .i64 a) ∧ W.cell? ⟨w.heap.size, 1, none⟩ = some (.int .i64 b) ∧ W.cell? ⟨w.heap.size, 2, none⟩ = some (.int .i64 c))
  clear hR
  go_enter Tryz.func74, Tryz.ntmps74
  go_wp2
  go_region_held3 (fun w' => w'.cell? ⟨w.heap.size, 0, none⟩ = some (.int .i64 a) ∧ w'.cell? ⟨w.heap.size, 1, none⟩ = some (.int .i64 b) ∧ w'.cell? ⟨w.heap.size, 2, none⟩ = some (.int .i64 c)) (exact hS _ (by repeat (first | exact Below.refl _ _ | assumption | refine bExt ?_ _ | refine bAlloc ?_ _ | refine bDrewN ?_ _ | refine bDrew ?_ | refine bSet ?_ (by first | exact Nat.le_refl _ | omega | (simp; done) | (simp; omega)) _))) (first
    | (go_at_call 53; ((with_reducible refine (c1 _).mono ?_); rintro e w' ⟨rfl, x1, rfl⟩))
    | (go_at_call 53; ((with_reducible refine (c2 _).mono ?_); rintro e w' ⟨rfl, x2, rfl⟩))
    | (go_at_call 53; ((with_reducible refine (c3 _).mono ?_); rintro e w' ⟨rfl, x3, rfl⟩)))
  all_goals
    go_wp2
    go_ret
    exact ⟨ret_str (by rw [HV.out]), ext_ex (by repeat (first | exact Below.refl _ _ | assumption | refine bExt ?_ _ | refine bAlloc ?_ _ | refine bDrewN ?_ _ | refine bDrew ?_ | refine bSet ?_ (by first | exact Nat.le_refl _ | omega | (simp; done) | (simp; omega)) _))⟩
end Go.Proofs.YtfmidngndddfiaaGreatDoor
namespace Go.Proofs.YtfmidngndddfiaaGreatDoor
open Go.RowKit
/-- What the reference has written after k of the two lists. -/
def outM (gg kk : List (List Int)) : Nat → ByteArray
  | 0 => ByteArray.empty
  | 1 => rowsA ⟨#[103]⟩ ByteArray.empty gg gg.length
  | _ => marksS gg kk
set_option maxHeartbeats 4000000 in
theorem mkText_any (w : World) (GA KA : Option Addr) (gn gc kn kc : Nat) (gg kk : List (List Int)) (hG : RdM w GA gn gg) (hK : RdM w KA kn kk) (hg : RowsG gg) (hk : RowsG kk) (hgn : gn ≤ 100) (hkn : kn ≤ 100) :
    Calls Tryz.prog 73 #[.agg #[.slice GA gn gc, .slice KA kn kc]] w fun e w' => e = .returned (.string (marksS gg kk)) ∧ ∃ y, w' = ext w y := by
  have HG := Lib.hid hG.len
  have HK := Lib.hid hK.len
  have HO1 : Hid (outM gg kk 1 = rowsA ⟨#[103]⟩ ByteArray.empty gg gn) := by unfold Hid; show rowsA ⟨#[103]⟩ ByteArray.empty gg gg.length = _; rw [HG.out]
  have HO2 : Hid (outM gg kk 2 = rowsA ⟨#[99]⟩ (rowsA ⟨#[103]⟩ ByteArray.empty gg gn) kk kn) := by unfold Hid; show marksS gg kk = _; unfold marksS; rw [HG.out, HK.out]
  have hs1 : (rowsA ⟨#[103]⟩ ByteArray.empty gg gn).size ≤ 20000 := by
    have := rowsA_size (c := ⟨#[103]⟩) (s := ByteArray.empty) rfl hg gn (by rw [HG.out]; omega)
    have : ByteArray.empty.size = 0 := rfl
    omega
  go_enter Tryz.func73, Tryz.ntmps73
  go_wp2
  go_loopw [3, 4, 5, 7, 9, 16] (fun t _ _ _ _ i wr => ∃ (k : Nat) (y : World), k ≤ 2 ∧ i = .int .i64 k ∧ t = .string (outM gg kk k) ∧ wr = ext ((w.alloc (.cells #[.slice GA gn gc, .slice KA kn kc] 43)).alloc (.cells #[.slice GA gn gc, .slice KA kn kc] 27)) y) (fun _ _ _ _ _ i _ => 2 - (intOf i).toNat)
  case atStart => exact ⟨0, _, by omega, rfl, rfl, ext_self _⟩
  case round =>
    obtain ⟨k, y, hk2, rfl, rfl, rfl⟩ := hrel
    by_cases hlt : k < 2
    · rcases (by omega : k = 0 ∨ k = 1) with rfl | rfl
      · have hce : (ext ((w.alloc (.cells #[.slice GA gn gc, .slice KA kn kc] 43)).alloc (.cells #[.slice GA gn gc, .slice KA kn kc] 27)) y).cell? ⟨w.heap.size + 1, 0, none⟩ = some (.slice GA gn gc) := by simp [go_sem]
        have z0 := fun j hj => rowsA_size (c := ⟨#[103]⟩) (s := ByteArray.empty) rfl hg j hj
        rw [HG.out] at z0
        have hs0 : (ByteArray.empty).size ≤ 20000 := Nat.zero_le _
        have HS := fun j => Lib.hid (rowsA.eq_2 ⟨#[103]⟩ (ByteArray.empty) gg j)
        simp only [Int.natCast_zero]
        go_wp2
        go_loopw [3, 7, 9, 23] (fun t _ _ i wr => ∃ (j : Nat) (y : World), j ≤ gn ∧ i = .int .i64 j ∧ t = .string (rowsA ⟨#[103]⟩ (ByteArray.empty) gg j) ∧ wr = ext ((w.alloc (.cells #[.slice GA gn gc, .slice KA kn kc] 43)).alloc (.cells #[.slice GA gn gc, .slice KA kn kc] 27)) y) (fun _ _ _ i _ => gn - (intOf i).toNat)
        case atStart => exact ⟨0, y, by omega, rfl, rfl, rfl⟩
        case round =>
          obtain ⟨j, y2, hj, rfl, rfl, rfl⟩ := hrel
          by_cases hjl : j < gn
          · obtain ⟨b, off, RA, rn, rc, hAe, hb, hc, ha, _, _⟩ := hG.at_ j hjl
            subst hAe
            have hr := hg j (by rw [HG.out]; exact hjl)
            have HSj := HS j
            have zj := z0 j hj
            have hln := ha.len
            rw [hln] at HSj
            have zr := fun (s : ByteArray) i hi => rowA_size (s := s) hr i hi
            rw [hln] at zr
            have hr1 := hr.1
            rw [hln] at hr1
            have hat := fun i hi => hr.at (k := i) hi
            rw [hln] at hat
            clear z0 HS hr hln
            generalize rowsA ⟨#[103]⟩ (ByteArray.empty) gg j = s at *
            generalize gg[j]?.getD [] = l at *
            have zc : ByteArray.size ⟨#[103]⟩ = 1 := rfl
            have zs : ByteArray.size (⟨#[32]⟩ : ByteArray) = 1 := rfl
            have ze : ByteArray.size (⟨#[10]⟩ : ByteArray) = 1 := rfl
            have f1 : Fit (s ++ ⟨#[103]⟩) := by unfold Fit; simp only [ByteArray.size_append]; omega
            have z2 : (s ++ ⟨#[103]⟩).size ≤ 40001 := by rw [ByteArray.size_append]; omega
            have fc := ((by repeat (first | exact Below.refl _ _ | assumption | refine bExt ?_ _ | refine bAlloc ?_ _ | refine bDrewN ?_ _ | refine bDrew ?_ | refine bSet ?_ (by first | exact Nat.le_refl _ | omega | (simp; done) | (simp; omega)) _) : Below w.heap.size w (ext ((w.alloc (.cells #[.slice (some ⟨b, off, none⟩) gn gc, .slice KA kn kc] 43)).alloc (.cells #[.slice (some ⟨b, off, none⟩) gn gc, .slice KA kn kc] 27)) y2)).cell (p := ⟨b, off + j, none⟩) hb).trans hc
            go_wp2
            generalize s ++ ⟨#[103]⟩ = s1 at *
            go_loopw [3, 9, 35] (fun t _ i wr => ∃ (i2 : Nat) (y : World), i2 ≤ rn ∧ i = .int .i64 i2 ∧ t = .string (rowA s1 l i2) ∧ wr = ext ((w.alloc (.cells #[.slice (some ⟨b, off, none⟩) gn gc, .slice KA kn kc] 43)).alloc (.cells #[.slice (some ⟨b, off, none⟩) gn gc, .slice KA kn kc] 27)) y) (fun _ _ i _ => rn - (intOf i).toNat)
            case atStart => exact ⟨0, _, by omega, rfl, rfl, (ext_ex (by repeat (first | exact Below.refl _ _ | assumption | refine bExt ?_ _ | refine bAlloc ?_ _ | refine bDrewN ?_ _ | refine bDrew ?_ | refine bSet ?_ (by first | exact Nat.le_refl _ | omega | (simp; done) | (simp; omega)) _))).choose_spec⟩
            case round =>
              obtain ⟨i2, y3, hi, rfl, rfl, rfl⟩ := hrel
              have zi := zr s1 i2 hi
              by_cases hil : i2 < rn
              · obtain ⟨b3, o3, hRe, hb3, hc3⟩ := ha.open_ (by omega)
                subst hRe
                have hck := hc3 i2 hil
                rw [List.getD_eq_getElem?_getD] at hck
                have hv := hat i2 hil
                have zv := intS_size hv.1 hv.2
                have HR : Hid (rowA s1 l (i2 + 1) = rowA s1 l i2 ++ (⟨#[32]⟩ ++ intS (l[i2]?.getD 0))) := rfl
                clear hc3 hat zr
                generalize l[i2]?.getD 0 = v at *
                generalize rowA s1 l i2 = s2 at *
                have f2 : Fit ((⟨#[32]⟩ : ByteArray) ++ intS v) := by unfold Fit; simp only [ByteArray.size_append]; omega
                have f3 : Fit (s2 ++ ((⟨#[32]⟩ : ByteArray) ++ intS v)) := by unfold Fit; simp only [ByteArray.size_append]; omega
                have cv := fun W => l1Int_any v W hv.1 hv.2
                have fd := ((by repeat (first | exact Below.refl _ _ | assumption | refine bExt ?_ _ | refine bAlloc ?_ _ | refine bDrewN ?_ _ | refine bDrew ?_ | refine bSet ?_ (by first | exact Nat.le_refl _ | omega | (simp; done) | (simp; omega)) _) : Below w.heap.size w (ext ((w.alloc (.cells #[.slice (some ⟨b, off, none⟩) gn gc, .slice KA kn kc] 43)).alloc (.cells #[.slice (some ⟨b, off, none⟩) gn gc, .slice KA kn kc] 27)) y3)).cell (p := ⟨b3, o3 + i2, none⟩) hb3).trans hck
                clear zi zv zc zs ze z2 f1 hv
                go_wp2_with ((go_at_call 108; ((with_reducible refine (cv _).mono ?_); rintro e w' ⟨rfl, x3, rfl⟩)))
                go_roundw
                case rel => exact ⟨i2 + 1, _, by omega, by go_num, by rw [HR.out], (ext_ex (by repeat (first | exact Below.refl _ _ | assumption | refine bExt ?_ _ | refine bAlloc ?_ _ | refine bDrewN ?_ _ | refine bDrew ?_ | refine bSet ?_ (by first | exact Nat.le_refl _ | omega | (simp; done) | (simp; omega)) _))).choose_spec⟩
                case measure => simp [intOf]; omega
              · obtain rfl : i2 = rn := by omega
                clear hat zr
                generalize rowA s1 l i2 = s2 at *
                have f2 : Fit (s2 ++ (⟨#[10]⟩ : ByteArray)) := by unfold Fit; simp only [ByteArray.size_append]; omega
                go_wp2
                go_roundw
                case rel => exact ⟨j + 1, _, by omega, by go_num, by rw [HSj.out], (ext_ex (by repeat (first | exact Below.refl _ _ | assumption | refine bExt ?_ _ | refine bAlloc ?_ _ | refine bDrewN ?_ _ | refine bDrew ?_ | refine bSet ?_ (by first | exact Nat.le_refl _ | omega | (simp; done) | (simp; omega)) _))).choose_spec⟩
                case measure => simp [intOf]; omega
          · obtain rfl : j = gn := by omega
            go_wp2
            go_roundw
            case rel => exact ⟨1, _, by omega, by go_num, by rw [HO1.out], (ext_ex (by repeat (first | exact Below.refl _ _ | assumption | refine bExt ?_ _ | refine bAlloc ?_ _ | refine bDrewN ?_ _ | refine bDrew ?_ | refine bSet ?_ (by first | exact Nat.le_refl _ | omega | (simp; done) | (simp; omega)) _))).choose_spec⟩
            case measure => simp [intOf]
      · have hce : (ext ((w.alloc (.cells #[.slice GA gn gc, .slice KA kn kc] 43)).alloc (.cells #[.slice GA gn gc, .slice KA kn kc] 27)) y).cell? ⟨w.heap.size + 1, 1, none⟩ = some (.slice KA kn kc) := by simp [go_sem]
        have z0 := fun j hj => rowsA_size (c := ⟨#[99]⟩) (s := rowsA ⟨#[103]⟩ ByteArray.empty gg gn) rfl hk j hj
        rw [HK.out] at z0
        have hs0 : (rowsA ⟨#[103]⟩ ByteArray.empty gg gn).size ≤ 20000 := hs1
        have HS := fun j => Lib.hid (rowsA.eq_2 ⟨#[99]⟩ (rowsA ⟨#[103]⟩ ByteArray.empty gg gn) kk j)
        simp only [Int.natCast_one]
        rw [HO1.out]
        go_wp2
        go_loopw [3, 7, 9, 23] (fun t _ _ i wr => ∃ (j : Nat) (y : World), j ≤ kn ∧ i = .int .i64 j ∧ t = .string (rowsA ⟨#[99]⟩ (rowsA ⟨#[103]⟩ ByteArray.empty gg gn) kk j) ∧ wr = ext ((w.alloc (.cells #[.slice GA gn gc, .slice KA kn kc] 43)).alloc (.cells #[.slice GA gn gc, .slice KA kn kc] 27)) y) (fun _ _ _ i _ => kn - (intOf i).toNat)
        case atStart => exact ⟨0, y, by omega, rfl, rfl, rfl⟩
        case round =>
          obtain ⟨j, y2, hj, rfl, rfl, rfl⟩ := hrel
          by_cases hjl : j < kn
          · obtain ⟨b, off, RA, rn, rc, hAe, hb, hc, ha, _, _⟩ := hK.at_ j hjl
            subst hAe
            have hr := hk j (by rw [HK.out]; exact hjl)
            have HSj := HS j
            have zj := z0 j hj
            have hln := ha.len
            rw [hln] at HSj
            have zr := fun (s : ByteArray) i hi => rowA_size (s := s) hr i hi
            rw [hln] at zr
            have hr1 := hr.1
            rw [hln] at hr1
            have hat := fun i hi => hr.at (k := i) hi
            rw [hln] at hat
            clear z0 HS hr hln
            generalize rowsA ⟨#[99]⟩ (rowsA ⟨#[103]⟩ ByteArray.empty gg gn) kk j = s at *
            generalize kk[j]?.getD [] = l at *
            have zc : ByteArray.size ⟨#[99]⟩ = 1 := rfl
            have zs : ByteArray.size (⟨#[32]⟩ : ByteArray) = 1 := rfl
            have ze : ByteArray.size (⟨#[10]⟩ : ByteArray) = 1 := rfl
            have f1 : Fit (s ++ ⟨#[99]⟩) := by unfold Fit; simp only [ByteArray.size_append]; omega
            have z2 : (s ++ ⟨#[99]⟩).size ≤ 40001 := by rw [ByteArray.size_append]; omega
            have fc := ((by repeat (first | exact Below.refl _ _ | assumption | refine bExt ?_ _ | refine bAlloc ?_ _ | refine bDrewN ?_ _ | refine bDrew ?_ | refine bSet ?_ (by first | exact Nat.le_refl _ | omega | (simp; done) | (simp; omega)) _) : Below w.heap.size w (ext ((w.alloc (.cells #[.slice GA gn gc, .slice (some ⟨b, off, none⟩) kn kc] 43)).alloc (.cells #[.slice GA gn gc, .slice (some ⟨b, off, none⟩) kn kc] 27)) y2)).cell (p := ⟨b, off + j, none⟩) hb).trans hc
            go_wp2
            generalize s ++ ⟨#[99]⟩ = s1 at *
            go_loopw [3, 9, 35] (fun t _ i wr => ∃ (i2 : Nat) (y : World), i2 ≤ rn ∧ i = .int .i64 i2 ∧ t = .string (rowA s1 l i2) ∧ wr = ext ((w.alloc (.cells #[.slice GA gn gc, .slice (some ⟨b, off, none⟩) kn kc] 43)).alloc (.cells #[.slice GA gn gc, .slice (some ⟨b, off, none⟩) kn kc] 27)) y) (fun _ _ i _ => rn - (intOf i).toNat)
            case atStart => exact ⟨0, _, by omega, rfl, rfl, (ext_ex (by repeat (first | exact Below.refl _ _ | assumption | refine bExt ?_ _ | refine bAlloc ?_ _ | refine bDrewN ?_ _ | refine bDrew ?_ | refine bSet ?_ (by first | exact Nat.le_refl _ | omega | (simp; done) | (simp; omega)) _))).choose_spec⟩
            case round =>
              obtain ⟨i2, y3, hi, rfl, rfl, rfl⟩ := hrel
              have zi := zr s1 i2 hi
              by_cases hil : i2 < rn
              · obtain ⟨b3, o3, hRe, hb3, hc3⟩ := ha.open_ (by omega)
                subst hRe
                have hck := hc3 i2 hil
                rw [List.getD_eq_getElem?_getD] at hck
                have hv := hat i2 hil
                have zv := intS_size hv.1 hv.2
                have HR : Hid (rowA s1 l (i2 + 1) = rowA s1 l i2 ++ (⟨#[32]⟩ ++ intS (l[i2]?.getD 0))) := rfl
                clear hc3 hat zr
                generalize l[i2]?.getD 0 = v at *
                generalize rowA s1 l i2 = s2 at *
                have f2 : Fit ((⟨#[32]⟩ : ByteArray) ++ intS v) := by unfold Fit; simp only [ByteArray.size_append]; omega
                have f3 : Fit (s2 ++ ((⟨#[32]⟩ : ByteArray) ++ intS v)) := by unfold Fit; simp only [ByteArray.size_append]; omega
                have cv := fun W => l1Int_any v W hv.1 hv.2
                have fd := ((by repeat (first | exact Below.refl _ _ | assumption | refine bExt ?_ _ | refine bAlloc ?_ _ | refine bDrewN ?_ _ | refine bDrew ?_ | refine bSet ?_ (by first | exact Nat.le_refl _ | omega | (simp; done) | (simp; omega)) _) : Below w.heap.size w (ext ((w.alloc (.cells #[.slice GA gn gc, .slice (some ⟨b, off, none⟩) kn kc] 43)).alloc (.cells #[.slice GA gn gc, .slice (some ⟨b, off, none⟩) kn kc] 27)) y3)).cell (p := ⟨b3, o3 + i2, none⟩) hb3).trans hck
                clear zi zv zc zs ze z2 f1 hv
                go_wp2_with ((go_at_call 108; ((with_reducible refine (cv _).mono ?_); rintro e w' ⟨rfl, x3, rfl⟩)))
                go_roundw
                case rel => exact ⟨i2 + 1, _, by omega, by go_num, by rw [HR.out], (ext_ex (by repeat (first | exact Below.refl _ _ | assumption | refine bExt ?_ _ | refine bAlloc ?_ _ | refine bDrewN ?_ _ | refine bDrew ?_ | refine bSet ?_ (by first | exact Nat.le_refl _ | omega | (simp; done) | (simp; omega)) _))).choose_spec⟩
                case measure => simp [intOf]; omega
              · obtain rfl : i2 = rn := by omega
                clear hat zr
                generalize rowA s1 l i2 = s2 at *
                have f2 : Fit (s2 ++ (⟨#[10]⟩ : ByteArray)) := by unfold Fit; simp only [ByteArray.size_append]; omega
                go_wp2
                go_roundw
                case rel => exact ⟨j + 1, _, by omega, by go_num, by rw [HSj.out], (ext_ex (by repeat (first | exact Below.refl _ _ | assumption | refine bExt ?_ _ | refine bAlloc ?_ _ | refine bDrewN ?_ _ | refine bDrew ?_ | refine bSet ?_ (by first | exact Nat.le_refl _ | omega | (simp; done) | (simp; omega)) _))).choose_spec⟩
                case measure => simp [intOf]; omega
          · obtain rfl : j = kn := by omega
            go_wp2
            go_roundw
            case rel => exact ⟨2, _, by omega, by go_num, by rw [HO2.out], (ext_ex (by repeat (first | exact Below.refl _ _ | assumption | refine bExt ?_ _ | refine bAlloc ?_ _ | refine bDrewN ?_ _ | refine bDrew ?_ | refine bSet ?_ (by first | exact Nat.le_refl _ | omega | (simp; done) | (simp; omega)) _))).choose_spec⟩
            case measure => simp [intOf]
    · obtain rfl : k = 2 := by omega
      go_wp2
      go_ret
      exact ⟨ret_str rfl, ext_ex (by repeat (first | exact Below.refl _ _ | assumption | refine bExt ?_ _ | refine bAlloc ?_ _ | refine bDrewN ?_ _ | refine bDrew ?_ | refine bSet ?_ (by first | exact Nat.le_refl _ | omega | (simp; done) | (simp; omega)) _))⟩
set_option maxHeartbeats 4000000 in
theorem marksText_any' (w : World) (GA KA : Option Addr) (gn gc kn kc : Nat) (gg kk : List (List Int)) (hm : RdMk w GA gn KA kn gg kk) (hB : marksB gg kk = true) (hTab : Tab w) :
    Calls Tryz.prog 77 #[.agg #[.slice GA gn gc, .slice KA kn kc]] w (RetSK w (marksS gg kk) true) := by
  have ci := fun W (h : Below w.heap.size w W) => isMarks_any W GA KA gn kn gc kc gg kk (hm.below h)
  rw [hB] at ci
  have hG := hm.1
  have hK := hm.2.1
  obtain ⟨hg, hk⟩ := marks_rows hB
  have hmo := marksB_of hB
  have HG := Lib.hid hG.len
  have HK := Lib.hid hK.len
  have hgn : gn ≤ 14 := by have := HG.out; omega
  have hkn : kn ≤ 3 := by have := HK.out; omega
  have HV : Hid (marksS gg kk = rowsA ⟨#[99]⟩ (rowsA ⟨#[103]⟩ ByteArray.empty gg gn) kk kn) := by unfold Hid marksS; rw [HG.out, HK.out]
  have hs1 := rowsA_size (c := ⟨#[103]⟩) (s := ByteArray.empty) rfl hg gn (by rw [HG.out]; omega)
  have hs0 : ByteArray.empty.size = 0 := rfl
  clear hmo hm hB
  have hR : (w.alloc (.cells #[.slice GA gn gc, .slice KA kn kc] 43)).cell? ⟨w.heap.size, 0, none⟩ = some (.slice GA gn gc) ∧ (w.alloc (.cells #[.slice GA gn gc, .slice KA kn kc] 43)).cell? ⟨w.heap.size, 1, none⟩ = some (.slice KA kn kc) := by refine ⟨?_, ?_⟩ <;> first | assumption | simp [*, go_sem]
  have hS := fun (W : World) (h : Below (w.alloc (.cells #[.slice GA gn gc, .slice KA kn kc] 43)).heap.size (w.alloc (.cells #[.slice GA gn gc, .slice KA kn kc] 43)) W) => (⟨(h.cell (p := ⟨w.heap.size, 0, none⟩) (by first | assumption | (simp [go_sem]; done) | (simp [go_sem]; omega))).trans hR.1, (h.cell (p := ⟨w.heap.size, 1, none⟩) (by first | assumption | (simp [go_sem]; done) | (simp [go_sem]; omega))).trans hR.2⟩ : W.cell? ⟨w.heap.size, 0, none⟩ = some (.slice GA gn gc) ∧ W.cell? ⟨w.heap.size, 1, none⟩ = some (.slice KA kn kc))
  clear hR
  go_enter Tryz.func77, Tryz.ntmps77
  go_wp2_with ((go_at_call 110; ((with_reducible refine (ci _ (by repeat (first | exact Below.refl _ _ | assumption | refine bExt ?_ _ | refine bAlloc ?_ _ | refine bDrewN ?_ _ | refine bDrew ?_ | refine bSet ?_ (by first | exact Nat.le_refl _ | omega | (simp; done) | (simp; omega)) _))).mono ?_); rintro e w' ⟨rfl, y1, rfl⟩)))
  obtain ⟨w1, hw1⟩ : ∃ w1, w1 = ext (w.alloc (.cells #[.slice GA gn gc, .slice KA kn kc] 43)) y1 := ⟨_, rfl⟩
  have hbR : Below (w.alloc (.cells #[.slice GA gn gc, .slice KA kn kc] 43)).heap.size (w.alloc (.cells #[.slice GA gn gc, .slice KA kn kc] 43)) w1 := by rw [hw1]; repeat (first | exact Below.refl _ _ | assumption | refine bExt ?_ _ | refine bAlloc ?_ _ | refine bDrewN ?_ _ | refine bDrew ?_ | refine bSet ?_ (by first | exact Nat.le_refl _ | omega | (simp; done) | (simp; omega)) _)
  have hbw : Below w.heap.size w w1 := by rw [hw1]; repeat (first | exact Below.refl _ _ | assumption | refine bExt ?_ _ | refine bAlloc ?_ _ | refine bDrewN ?_ _ | refine bDrew ?_ | refine bSet ?_ (by first | exact Nat.le_refl _ | omega | (simp; done) | (simp; omega)) _)
  rw [← hw1]
  clear hw1
  have hS := fun (W : World) (h : Below w1.heap.size w1 W) => hS W (hbR.trans (h.mono hbR.size))
  go_loopw [6, 15] (fun _ i wr => ∃ (k : Nat) (y : World), k ≤ gn ∧ i = .int .i64 k ∧ wr = ext w1 y ∧ Bld w1.heap.size w1.heap.size (rowsA ⟨#[103]⟩ (ByteArray.empty) gg k) (ext w1 y)) (fun _ i _ => gn - (intOf i).toNat)
  case atStart =>
    obtain ⟨y, hy⟩ := ext_ex (show Below w1.heap.size w1 (w1.alloc (.cells #[.pointer none, .slice none 0 0] 103)) from by repeat (first | exact Below.refl _ _ | assumption | refine bExt ?_ _ | refine bAlloc ?_ _ | refine bDrewN ?_ _ | refine bDrew ?_ | refine bSet ?_ (by first | exact Nat.le_refl _ | omega | (simp; done) | (simp; omega)) _))
    have o0 := Bld.new w1
    rw [hy] at o0
    exact ⟨0, y, by omega, rfl, hy, o0⟩
  case round =>
    obtain ⟨k, y, hk0, rfl, rfl, hB⟩ := hrel
    have zk := rowsA_size (c := ⟨#[103]⟩) (s := ByteArray.empty) rfl hg k (by rw [HG.out]; exact hk0)
    have fR := hS (ext w1 y) (by repeat (first | exact Below.refl _ _ | assumption | refine bExt ?_ _ | refine bAlloc ?_ _ | refine bDrewN ?_ _ | refine bDrew ?_ | refine bSet ?_ (by first | exact Nat.le_refl _ | omega | (simp; done) | (simp; omega)) _))
    by_cases hlt : k < gn
    · obtain ⟨b, off, RA, rn, rc, hAe, hb, hc, ha, _, _⟩ := hG.at_ k hlt
      subst hAe
      have HLn : Hid (rowsA ⟨#[103]⟩ (ByteArray.empty) gg (k + 1) = rowsA ⟨#[103]⟩ (ByteArray.empty) gg k ++ ((⟨#[103, 32]⟩ : ByteArray) ++ numsS (gg[k]?.getD []) ++ ⟨#[10]⟩)) := rowsA_line ⟨#[103]⟩ (ByteArray.empty) hg k (by rw [HG.out]; exact hlt)
      have hr1 := hg k (by rw [HG.out]; exact hlt)
      have zn := numsS_size hr1
      have cn := fun W (h : Below w.heap.size w W) => numbersText_any W RA rn rc (gg[k]?.getD []) (ha.below h) hr1 (hTab.below h)
      have fc := ((by repeat (first | exact Below.refl _ _ | assumption | refine bExt ?_ _ | refine bAlloc ?_ _ | refine bDrewN ?_ _ | refine bDrew ?_ | refine bSet ?_ (by first | exact Nat.le_refl _ | omega | (simp; done) | (simp; omega)) _) : Below w.heap.size w (ext w1 y)).cell (p := ⟨b, off + k, none⟩) hb).trans hc
      clear hr1 ha
      generalize numsS (gg[k]?.getD []) = ns at *
      generalize rowsA ⟨#[103]⟩ (ByteArray.empty) gg k = s at *
      have zl : ByteArray.size (⟨#[103, 32]⟩ : ByteArray) = 2 := rfl
      have ze : ByteArray.size (⟨#[10]⟩ : ByteArray) = 1 := rfl
      have f1 : Fit ((⟨#[103, 32]⟩ : ByteArray) ++ ns) := by unfold Fit; simp only [ByteArray.size_append]; omega
      have f2 : Fit ((⟨#[103, 32]⟩ : ByteArray) ++ ns ++ (⟨#[10]⟩ : ByteArray)) := by unfold Fit; simp only [ByteArray.size_append]; omega
      have hz : (s ++ ((⟨#[103, 32]⟩ : ByteArray) ++ ns ++ (⟨#[10]⟩ : ByteArray))).size ≤ 1000000 := by simp only [ByteArray.size_append]; omega
      have hsz : w1.heap.size ≤ (ext w1 y).heap.size := (show Below w1.heap.size w1 (ext w1 y) from by repeat (first | exact Below.refl _ _ | assumption | refine bExt ?_ _ | refine bAlloc ?_ _ | refine bDrewN ?_ _ | refine bDrew ?_ | refine bSet ?_ (by first | exact Nat.le_refl _ | omega | (simp; done) | (simp; omega)) _)).size
      have cw := fun W (h : Below (ext w1 y).heap.size (ext w1 y) W) => writeString_any w1.heap.size w1.heap.size s ((⟨#[103, 32]⟩ : ByteArray) ++ ns ++ (⟨#[10]⟩ : ByteArray)) W (hB.below h) hz (Nat.le_trans hsz h.size)
      clear zk zn zl ze hz
      go_wp2_with (first | (go_at_call 76; ((with_reducible refine (cn _ (by repeat (first | exact Below.refl _ _ | assumption | refine bExt ?_ _ | refine bAlloc ?_ _ | refine bDrewN ?_ _ | refine bDrew ?_ | refine bSet ?_ (by first | exact Nat.le_refl _ | omega | (simp; done) | (simp; omega)) _))).mono ?_); rintro e w' ⟨rfl, x, rfl⟩)) | (go_at_call 75; ((with_reducible refine (cw _ (by repeat (first | exact Below.refl _ _ | assumption | refine bExt ?_ _ | refine bAlloc ?_ _ | refine bDrewN ?_ _ | refine bDrew ?_ | refine bSet ?_ (by first | exact Nat.le_refl _ | omega | (simp; done) | (simp; omega)) _))).mono ?_); rintro e w' ⟨rfl, hB2, hb2⟩)))
      obtain ⟨y2, rfl⟩ := ext_ex (Below.trans (show Below w1.heap.size w1 (ext (ext w1 y) x) from by repeat (first | exact Below.refl _ _ | assumption | refine bExt ?_ _ | refine bAlloc ?_ _ | refine bDrewN ?_ _ | refine bDrew ?_ | refine bSet ?_ (by first | exact Nat.le_refl _ | omega | (simp; done) | (simp; omega)) _)) hb2)
      go_roundw
      case rel => exact ⟨k + 1, y2, by omega, by go_num, rfl, by rw [HLn.out]; exact hB2⟩
      case measure => simp [intOf]; omega
    · obtain rfl : k = gn := by omega
      have hs1 := zk
      clear zk
      generalize rowsA ⟨#[103]⟩ ByteArray.empty gg k = s1 at *
      go_wp2
      clear fR
      go_loopw [8, 28] (fun _ i wr => ∃ (k : Nat) (y : World), k ≤ kn ∧ i = .int .i64 k ∧ wr = ext w1 y ∧ Bld w1.heap.size w1.heap.size (rowsA ⟨#[99]⟩ (s1) kk k) (ext w1 y)) (fun _ i _ => kn - (intOf i).toNat)
      case atStart => exact ⟨0, y, by omega, rfl, rfl, hB⟩
      case round =>
        obtain ⟨j, y3, hj0, rfl, rfl, hB3⟩ := hrel
        have zk := rowsA_size (c := ⟨#[99]⟩) (s := s1) rfl hk j (by rw [HK.out]; exact hj0)
        have fR := hS (ext w1 y3) (by repeat (first | exact Below.refl _ _ | assumption | refine bExt ?_ _ | refine bAlloc ?_ _ | refine bDrewN ?_ _ | refine bDrew ?_ | refine bSet ?_ (by first | exact Nat.le_refl _ | omega | (simp; done) | (simp; omega)) _))
        by_cases hlt : j < kn
        · obtain ⟨b, off, RA, rn, rc, hAe, hb, hc, ha, _, _⟩ := hK.at_ j hlt
          subst hAe
          have HLn : Hid (rowsA ⟨#[99]⟩ (s1) kk (j + 1) = rowsA ⟨#[99]⟩ (s1) kk j ++ ((⟨#[99, 32]⟩ : ByteArray) ++ numsS (kk[j]?.getD []) ++ ⟨#[10]⟩)) := rowsA_line ⟨#[99]⟩ (s1) hk j (by rw [HK.out]; exact hlt)
          have hr1 := hk j (by rw [HK.out]; exact hlt)
          have zn := numsS_size hr1
          have cn := fun W (h : Below w.heap.size w W) => numbersText_any W RA rn rc (kk[j]?.getD []) (ha.below h) hr1 (hTab.below h)
          have fc := ((by repeat (first | exact Below.refl _ _ | assumption | refine bExt ?_ _ | refine bAlloc ?_ _ | refine bDrewN ?_ _ | refine bDrew ?_ | refine bSet ?_ (by first | exact Nat.le_refl _ | omega | (simp; done) | (simp; omega)) _) : Below w.heap.size w (ext w1 y3)).cell (p := ⟨b, off + j, none⟩) hb).trans hc
          clear hr1 ha
          generalize numsS (kk[j]?.getD []) = ns at *
          generalize rowsA ⟨#[99]⟩ (s1) kk j = s at *
          have zl : ByteArray.size (⟨#[99, 32]⟩ : ByteArray) = 2 := rfl
          have ze : ByteArray.size (⟨#[10]⟩ : ByteArray) = 1 := rfl
          have f1 : Fit ((⟨#[99, 32]⟩ : ByteArray) ++ ns) := by unfold Fit; simp only [ByteArray.size_append]; omega
          have f2 : Fit ((⟨#[99, 32]⟩ : ByteArray) ++ ns ++ (⟨#[10]⟩ : ByteArray)) := by unfold Fit; simp only [ByteArray.size_append]; omega
          have hz : (s ++ ((⟨#[99, 32]⟩ : ByteArray) ++ ns ++ (⟨#[10]⟩ : ByteArray))).size ≤ 1000000 := by simp only [ByteArray.size_append]; omega
          have hsz : w1.heap.size ≤ (ext w1 y3).heap.size := (show Below w1.heap.size w1 (ext w1 y3) from by repeat (first | exact Below.refl _ _ | assumption | refine bExt ?_ _ | refine bAlloc ?_ _ | refine bDrewN ?_ _ | refine bDrew ?_ | refine bSet ?_ (by first | exact Nat.le_refl _ | omega | (simp; done) | (simp; omega)) _)).size
          have cw := fun W (h : Below (ext w1 y3).heap.size (ext w1 y3) W) => writeString_any w1.heap.size w1.heap.size s ((⟨#[99, 32]⟩ : ByteArray) ++ ns ++ (⟨#[10]⟩ : ByteArray)) W (hB3.below h) hz (Nat.le_trans hsz h.size)
          clear zk zn zl ze hz
          go_wp2_with (first | (go_at_call 76; ((with_reducible refine (cn _ (by repeat (first | exact Below.refl _ _ | assumption | refine bExt ?_ _ | refine bAlloc ?_ _ | refine bDrewN ?_ _ | refine bDrew ?_ | refine bSet ?_ (by first | exact Nat.le_refl _ | omega | (simp; done) | (simp; omega)) _))).mono ?_); rintro e w' ⟨rfl, x, rfl⟩)) | (go_at_call 75; ((with_reducible refine (cw _ (by repeat (first | exact Below.refl _ _ | assumption | refine bExt ?_ _ | refine bAlloc ?_ _ | refine bDrewN ?_ _ | refine bDrew ?_ | refine bSet ?_ (by first | exact Nat.le_refl _ | omega | (simp; done) | (simp; omega)) _))).mono ?_); rintro e w' ⟨rfl, hB2, hb2⟩)))
          obtain ⟨y2, rfl⟩ := ext_ex (Below.trans (show Below w1.heap.size w1 (ext (ext w1 y3) x) from by repeat (first | exact Below.refl _ _ | assumption | refine bExt ?_ _ | refine bAlloc ?_ _ | refine bDrewN ?_ _ | refine bDrew ?_ | refine bSet ?_ (by first | exact Nat.le_refl _ | omega | (simp; done) | (simp; omega)) _)) hb2)
          go_roundw
          case rel => exact ⟨j + 1, y2, by omega, by go_num, rfl, by rw [HLn.out]; exact hB2⟩
          case measure => simp [intOf]; omega
        · obtain rfl : j = kn := by omega
          have cs := fun W (h : Below (ext w1 y3).heap.size (ext w1 y3) W) => buildString_any w1.heap.size w1.heap.size _ W (hB3.below h) (Nat.le_trans (show Below w1.heap.size w1 (ext w1 y3) from by repeat (first | exact Below.refl _ _ | assumption | refine bExt ?_ _ | refine bAlloc ?_ _ | refine bDrewN ?_ _ | refine bDrew ?_ | refine bSet ?_ (by first | exact Nat.le_refl _ | omega | (simp; done) | (simp; omega)) _)).size h.size)
          rw [← HV.out] at cs
          clear HV zk fR
          generalize marksS gg kk = ms at *
          go_wp2_with ((go_at_call 79; ((with_reducible refine (cs _ (by repeat (first | exact Below.refl _ _ | assumption | refine bExt ?_ _ | refine bAlloc ?_ _ | refine bDrewN ?_ _ | refine bDrew ?_ | refine bSet ?_ (by first | exact Nat.le_refl _ | omega | (simp; done) | (simp; omega)) _))).mono ?_); rintro e w' ⟨rfl, hb5⟩)))
          obtain ⟨y6, rfl⟩ := ext_ex (Below.trans (show Below w1.heap.size w1 (ext w1 y3) from by repeat (first | exact Below.refl _ _ | assumption | refine bExt ?_ _ | refine bAlloc ?_ _ | refine bDrewN ?_ _ | refine bDrew ?_ | refine bSet ?_ (by first | exact Nat.le_refl _ | omega | (simp; done) | (simp; omega)) _)) hb5)
          go_ret2
          exact RetSK.mk_ rfl rfl (by repeat (first | exact Below.refl _ _ | assumption | refine bExt ?_ _ | refine bAlloc ?_ _ | refine bDrewN ?_ _ | refine bDrew ?_ | refine bSet ?_ (by first | exact Nat.le_refl _ | omega | (simp; done) | (simp; omega)) _))
end Go.Proofs.YtfmidngndddfiaaGreatDoor
namespace Go.Proofs.YtfmidngndddfiaaGreatDoor
open Go.RowKit
/-- The protocol's first line. -/
def hdrS (sk fa : Int) : ByteArray := (⟨#[112, 114, 111, 116, 111, 99, 111, 108, 32]⟩ : ByteArray) ++ numS sk ++ (⟨#[32]⟩ : ByteArray) ++ numS fa ++ (⟨#[10]⟩ : ByteArray)
/-- s and, behind it, k lines. -/
def linesA (s : ByteArray) (f : Nat → ByteArray) : Nat → ByteArray
  | 0 => s
  | k + 1 => linesA s f k ++ (f k ++ ⟨#[10]⟩)
theorem linesA_size {s : ByteArray} {f : Nat → ByteArray} : ∀ k, (∀ j, j < k → (f j).size ≤ 80) → (linesA s f k).size ≤ s.size + 81 * k
  | 0, _ => by simp [linesA]
  | k + 1, h => by
    have ih := linesA_size (s := s) k (fun j hj => h j (by omega))
    have h2 := h k (by omega)
    rw [linesA, ByteArray.size_append, ByteArray.size_append]
    have : ByteArray.size ⟨#[10]⟩ = 1 := rfl
    omega
/-- The protocol of a performance. -/
def textV (els : List El) (q0 q1 q2 q3 : Int) (its : List It) (gg kk : List (List Int)) (s1 s2 s3 sk fa : Int) : ByteArray :=
  linesA (hdrS sk fa) (lineS els q0 q1 q2 its gg) its.length ++ marksS gg kk ++ (⟨#[115, 108, 105, 112, 115, 32]⟩ : ByteArray) ++ slipS s1 s2 s3 ++ (⟨#[10]⟩ : ByteArray) ++ totS els q0 q1 q2 q3 its gg kk s1 s2 s3 fa ++ (⟨#[10]⟩ : ByteArray)
theorem lineS_size {els : List El} {q0 q1 q2 q3 : Int} {its : List It} {gg kk : List (List Int)} {s1 s2 s3 : Int} (hP : PerfG els q0 q1 q2 q3 its gg kk s1 s2 s3) (k : Nat) (hk : k < its.length) : ((lineS els q0 q1 q2 its gg) k).size ≤ 80 := by
  have hIk := hP.itg k hk
  have hgr := hP.grs k (by rw [hP.glen]; exact hk)
  have hT := hP.txt k hk
  have hb1 := base_bd (its := its) (k := k) hP.code hIk
  have hb2 := pts_bd (its := its) (k := k) hP.code hIk hgr
  have hlen := hP.len
  exact lineA_size (by omega) (by omega) (by omega) (by omega) (by omega) (itemS_size hT hIk.1.2)
theorem hdrS_size {sk fa : Int} (hsk : 1 ≤ sk ∧ sk ≤ 999) (hfa : 10 ≤ fa ∧ fa ≤ 400) : (hdrS sk fa).size ≤ 21 := by
  have z1 := numS_size 4 sk (by omega) (by omega)
  have z2 := numS_size 4 fa (by omega) (by omega)
  have zp : ByteArray.size (⟨#[112, 114, 111, 116, 111, 99, 111, 108, 32]⟩ : ByteArray) = 9 := rfl
  have zl : ByteArray.size (⟨#[115, 108, 105, 112, 115, 32]⟩ : ByteArray) = 6 := rfl
  have zs : ByteArray.size (⟨#[32]⟩ : ByteArray) = 1 := rfl
  have ze : ByteArray.size (⟨#[10]⟩ : ByteArray) = 1 := rfl
  unfold hdrS
  simp only [ByteArray.size_append]
  omega
theorem hdrS_nums {sk fa : Int} (hsk : 1 ≤ sk ∧ sk ≤ 999) (hfa : 10 ≤ fa ∧ fa ≤ 400) : hdrS sk fa = (⟨#[112, 114, 111, 116, 111, 99, 111, 108, 32]⟩ : ByteArray) ++ numsS [sk, fa] ++ (⟨#[10]⟩ : ByteArray) := by
  rw [numsS_two, intS_pos (by omega), intS_pos (by omega), hdrS]
  simp only [ByteArray.append_assoc]
theorem RdI.two_ {w : World} {b : Nat} {x y : Int} (hb : b < w.heap.size) (h0 : w.cell? ⟨b, 0, none⟩ = some (.int .i64 x)) (h1 : w.cell? ⟨b, 1, none⟩ = some (.int .i64 y)) : RdI w (some ⟨b, 0, none⟩) 2 [x, y] :=
  ⟨by simp, fun _ => ⟨b, 0, rfl, hb, fun j u hu => by
    match j with
    | 0 => simp at hu; subst hu; exact h0
    | 1 => simp at hu; subst hu; exact h1
    | j + 2 => simp at hu⟩⟩
theorem slip_rows {a b c : Int} (h : slipB a b c = true) : RowG [a, b, c] := by
  have := slip_of h
  exact row_three (by omega) (by omega) (by omega)
set_option maxHeartbeats 8000000 in
theorem ptText_any (w : World) (A B : Option Addr) (n m c d : Nat) (els : List El) (q0 q1 q2 q3 : Int) (I : Option Addr) (n2 c2 : Nat) (its : List It) (GA KA : Option Addr) (gn gc kn kc : Nat) (gg kk : List (List Int)) (s1 s2 s3 : Int) (hM : PP w A n els I n2 c2 its GA gn gg) (hm : RdMk w GA gn KA kn gg kk) (hP : PerfG els q0 q1 q2 q3 its gg kk s1 s2 s3) (sk fa : Int) (hsk : 1 ≤ sk ∧ sk ≤ 999) (hfa : 10 ≤ fa ∧ fa ≤ 400) :
    Calls Tryz.prog 43 #[.agg #[.slice A n c, .slice B m d, .int .i64 q0, .int .i64 q1, .int .i64 q2, .int .i64 q3], .agg #[.slice I n2 c2, .slice GA gn gc, .slice KA kn kc, .int .i64 s1, .int .i64 s2, .int .i64 s3], .int .i64 sk, .int .i64 fa] w (fun e w' => e = .returned (.string (textV els q0 q1 q2 q3 its gg kk s1 s2 s3 sk fa)) ∧ ∃ y, w' = ext w y) := by
  have cl := fun W k (hk : k < n2) (h : Below w.heap.size w W) => ptItem_any W A B n m c d els q0 q1 q2 q3 I n2 c2 its GA KA gn gc kn kc gg kk s1 s2 s3 (hM.below h) hP k hk
  have ct := fun W (h : Below w.heap.size w W) => ptTotals_any W A B n m c d els q0 q1 q2 q3 I n2 c2 its GA KA gn gc kn kc gg kk s1 s2 s3 (hM.below h) (hm.2.1.below h) hP fa hfa
  have hsl := slip_of hP.slip
  have hrw := slip_rows hP.slip
  obtain ⟨hgr, hkr⟩ := marks_rows hP.mks
  have hlen := hP.len
  have hmo := marksB_of hP.mks
  have Hl := Lib.hid hM.2.1.1.len
  have zm := marksS_size hgr hkr
  have zsl := numsS_size hrw
  have zt := totTo_size (parts_bd (factor := fa) hP hfa) 4 (Nat.le_refl 4)
  have zh := hdrS_size hsk hfa
  have zln := fun k (hk : k ≤ n2) => linesA_size (s := hdrS sk fa) (f := (lineS els q0 q1 q2 its gg)) k (fun j hj => lineS_size hP j (by rw [Hl.out]; omega))
  rw [Hl.out] at hlen
  have zp : ByteArray.size (⟨#[112, 114, 111, 116, 111, 99, 111, 108, 32]⟩ : ByteArray) = 9 := rfl
  have zl : ByteArray.size (⟨#[115, 108, 105, 112, 115, 32]⟩ : ByteArray) = 6 := rfl
  have zs : ByteArray.size (⟨#[32]⟩ : ByteArray) = 1 := rfl
  have ze : ByteArray.size (⟨#[10]⟩ : ByteArray) = 1 := rfl
  have zm2 : (marksS gg kk).size ≤ 1200 := by omega
  have HV : Hid (textV els q0 q1 q2 q3 its gg kk s1 s2 s3 sk fa = linesA (hdrS sk fa) (lineS els q0 q1 q2 its gg) n2 ++ marksS gg kk ++ (⟨#[115, 108, 105, 112, 115, 32]⟩ : ByteArray) ++ slipS s1 s2 s3 ++ (⟨#[10]⟩ : ByteArray) ++ totS els q0 q1 q2 q3 its gg kk s1 s2 s3 fa ++ (⟨#[10]⟩ : ByteArray)) := by unfold Hid textV; rw [Hl.out]
  have zsl2 : (slipS s1 s2 s3).size ≤ 63 := zsl
  have zt2 : (totS els q0 q1 q2 q3 its gg kk s1 s2 s3 fa).size ≤ 62 := zt
  have cm := fun W (h : Below w.heap.size w W) => mkText_any W GA KA gn gc kn kc gg kk (hm.1.below h) (hm.2.1.below h) hgr hkr (by have := hm.1.len; omega) (by have := hm.2.1.len; omega)
  have cd := fun W => dcText_any s1 s2 s3 W (by omega) (by omega) (by omega)
  have cu1 := fun W => l1Num_fuel 4 sk W (by omega) (by omega) (by omega) (by omega)
  have cu2 := fun W => l1Num_fuel 4 fa W (by omega) (by omega) (by omega) (by omega)
  have z1 := numS_size 4 sk (by omega) (by omega)
  have z2 := numS_size 4 fa (by omega) (by omega)
  have hzl := fun k (hk : k < n2) => lineS_size hP k (by rw [Hl.out]; exact hk)
  have HH : Hid (hdrS sk fa = (⟨#[112, 114, 111, 116, 111, 99, 111, 108, 32]⟩ : ByteArray) ++ numS sk ++ (⟨#[32]⟩ : ByteArray) ++ numS fa ++ (⟨#[10]⟩ : ByteArray)) := rfl
  have f1 : Fit ((⟨#[112, 114, 111, 116, 111, 99, 111, 108, 32]⟩ : ByteArray) ++ numS sk) := by unfold Fit; simp only [ByteArray.size_append]; omega
  have f2 : Fit ((⟨#[112, 114, 111, 116, 111, 99, 111, 108, 32]⟩ : ByteArray) ++ numS sk ++ (⟨#[32]⟩ : ByteArray)) := by unfold Fit; simp only [ByteArray.size_append]; omega
  have f3 : Fit ((⟨#[112, 114, 111, 116, 111, 99, 111, 108, 32]⟩ : ByteArray) ++ numS sk ++ (⟨#[32]⟩ : ByteArray) ++ numS fa) := by unfold Fit; simp only [ByteArray.size_append]; omega
  have f4 : Fit ((⟨#[112, 114, 111, 116, 111, 99, 111, 108, 32]⟩ : ByteArray) ++ numS sk ++ (⟨#[32]⟩ : ByteArray) ++ numS fa ++ (⟨#[10]⟩ : ByteArray)) := by unfold Fit; simp only [ByteArray.size_append]; omega
  clear hM hm hP hsl hrw hgr hkr hmo zm zsl zt z1 z2 zp
  go_enter Tryz.func43, Tryz.ntmps43
  go_wp2_with (first | (go_at_call 53; ((with_reducible refine (cu1 _).mono ?_); rintro e w' ⟨rfl, x1, rfl⟩)) | (go_at_call 53; ((with_reducible refine (cu2 _).mono ?_); rintro e w' ⟨rfl, x2, rfl⟩)))
  go_loopw [9, 10, 22] (fun t _ i wr => ∃ (k : Nat) (y : World), k ≤ n2 ∧ i = .int .i64 k ∧ t = .string (linesA (hdrS sk fa) (lineS els q0 q1 q2 its gg) k) ∧ wr = ext ((w.alloc (.cells #[.slice A n c, .slice B m d, .int .i64 q0, .int .i64 q1, .int .i64 q2, .int .i64 q3] 40)).alloc (.cells #[.slice I n2 c2, .slice GA gn gc, .slice KA kn kc, .int .i64 s1, .int .i64 s2, .int .i64 s3] 46)) y) (fun _ _ i _ => n2 - (intOf i).toNat)
  case atStart => exact ⟨0, _, by omega, rfl, by rw [linesA, HH.out], (ext_ex (by repeat (first | exact Below.refl _ _ | assumption | refine bExt ?_ _ | refine bAlloc ?_ _ | refine bDrewN ?_ _ | refine bDrew ?_ | refine bSet ?_ (by first | exact Nat.le_refl _ | omega | (simp; done) | (simp; omega)) _))).choose_spec⟩
  case round =>
    obtain ⟨k, y, hk, rfl, rfl, rfl⟩ := hrel
    have zk := zln k hk
    by_cases hlt : k < n2
    · have HS : Hid (linesA (hdrS sk fa) (lineS els q0 q1 q2 its gg) (k + 1) = linesA (hdrS sk fa) (lineS els q0 q1 q2 its gg) k ++ ((lineS els q0 q1 q2 its gg) k ++ (⟨#[10]⟩ : ByteArray))) := rfl
      have zj := hzl k hlt
      have clk := fun W h => cl W k hlt h
      clear cl hzl zln
      generalize linesA (hdrS sk fa) (lineS els q0 q1 q2 its gg) k = s at *
      generalize (lineS els q0 q1 q2 its gg) k = ln at *
      have f5 : Fit (ln ++ (⟨#[10]⟩ : ByteArray)) := by unfold Fit; simp only [ByteArray.size_append]; omega
      have f6 : Fit (s ++ (ln ++ (⟨#[10]⟩ : ByteArray))) := by unfold Fit; simp only [ByteArray.size_append]; omega
      clear zk zj
      go_wp2_with ((go_at_call 24; ((with_reducible refine (clk _ (by repeat (first | exact Below.refl _ _ | assumption | refine bExt ?_ _ | refine bAlloc ?_ _ | refine bDrewN ?_ _ | refine bDrew ?_ | refine bSet ?_ (by first | exact Nat.le_refl _ | omega | (simp; done) | (simp; omega)) _))).mono ?_); rintro e w' ⟨rfl, x3, rfl⟩)))
      go_roundw
      case rel => exact ⟨k + 1, _, by omega, by go_num, by rw [HS.out], (ext_ex (by repeat (first | exact Below.refl _ _ | assumption | refine bExt ?_ _ | refine bAlloc ?_ _ | refine bDrewN ?_ _ | refine bDrew ?_ | refine bSet ?_ (by first | exact Nat.le_refl _ | omega | (simp; done) | (simp; omega)) _))).choose_spec⟩
      case measure => simp [intOf]; omega
    · obtain rfl : k = n2 := by omega
      clear zln hzl cl
      generalize linesA (hdrS sk fa) (lineS els q0 q1 q2 its gg) k = s at *
      generalize marksS gg kk = ms at *
      generalize slipS s1 s2 s3 = sl at *
      generalize totS els q0 q1 q2 q3 its gg kk s1 s2 s3 fa = tt at *
      have f0 : Fit (s ++ ms) := by unfold Fit; simp only [ByteArray.size_append]; omega
      have f1 : Fit (s ++ ms ++ (⟨#[115, 108, 105, 112, 115, 32]⟩ : ByteArray)) := by unfold Fit; simp only [ByteArray.size_append]; omega
      have f2 : Fit (s ++ ms ++ (⟨#[115, 108, 105, 112, 115, 32]⟩ : ByteArray) ++ sl) := by unfold Fit; simp only [ByteArray.size_append]; omega
      have f3 : Fit (s ++ ms ++ (⟨#[115, 108, 105, 112, 115, 32]⟩ : ByteArray) ++ sl ++ (⟨#[10]⟩ : ByteArray)) := by unfold Fit; simp only [ByteArray.size_append]; omega
      have f4 : Fit (s ++ ms ++ (⟨#[115, 108, 105, 112, 115, 32]⟩ : ByteArray) ++ sl ++ (⟨#[10]⟩ : ByteArray) ++ tt) := by unfold Fit; simp only [ByteArray.size_append]; omega
      have f5 : Fit (s ++ ms ++ (⟨#[115, 108, 105, 112, 115, 32]⟩ : ByteArray) ++ sl ++ (⟨#[10]⟩ : ByteArray) ++ tt ++ (⟨#[10]⟩ : ByteArray)) := by unfold Fit; simp only [ByteArray.size_append]; omega
      clear zk zm2 zsl2 zt2 zl zs ze zh hlen
      have hR : (ext ((w.alloc (.cells #[.slice A n c, .slice B m d, .int .i64 q0, .int .i64 q1, .int .i64 q2, .int .i64 q3] 40)).alloc (.cells #[.slice I k c2, .slice GA gn gc, .slice KA kn kc, .int .i64 s1, .int .i64 s2, .int .i64 s3] 46)) y).cell? ⟨w.heap.size, 0, none⟩ = some (.slice A n c) ∧ (ext ((w.alloc (.cells #[.slice A n c, .slice B m d, .int .i64 q0, .int .i64 q1, .int .i64 q2, .int .i64 q3] 40)).alloc (.cells #[.slice I k c2, .slice GA gn gc, .slice KA kn kc, .int .i64 s1, .int .i64 s2, .int .i64 s3] 46)) y).cell? ⟨w.heap.size, 1, none⟩ = some (.slice B m d) ∧ (ext ((w.alloc (.cells #[.slice A n c, .slice B m d, .int .i64 q0, .int .i64 q1, .int .i64 q2, .int .i64 q3] 40)).alloc (.cells #[.slice I k c2, .slice GA gn gc, .slice KA kn kc, .int .i64 s1, .int .i64 s2, .int .i64 s3] 46)) y).cell? ⟨w.heap.size, 2, none⟩ = some (.int .i64 q0) ∧ (ext ((w.alloc (.cells #[.slice A n c, .slice B m d, .int .i64 q0, .int .i64 q1, .int .i64 q2, .int .i64 q3] 40)).alloc (.cells #[.slice I k c2, .slice GA gn gc, .slice KA kn kc, .int .i64 s1, .int .i64 s2, .int .i64 s3] 46)) y).cell? ⟨w.heap.size, 3, none⟩ = some (.int .i64 q1) ∧ (ext ((w.alloc (.cells #[.slice A n c, .slice B m d, .int .i64 q0, .int .i64 q1, .int .i64 q2, .int .i64 q3] 40)).alloc (.cells #[.slice I k c2, .slice GA gn gc, .slice KA kn kc, .int .i64 s1, .int .i64 s2, .int .i64 s3] 46)) y).cell? ⟨w.heap.size, 4, none⟩ = some (.int .i64 q2) ∧ (ext ((w.alloc (.cells #[.slice A n c, .slice B m d, .int .i64 q0, .int .i64 q1, .int .i64 q2, .int .i64 q3] 40)).alloc (.cells #[.slice I k c2, .slice GA gn gc, .slice KA kn kc, .int .i64 s1, .int .i64 s2, .int .i64 s3] 46)) y).cell? ⟨w.heap.size, 5, none⟩ = some (.int .i64 q3) ∧ (ext ((w.alloc (.cells #[.slice A n c, .slice B m d, .int .i64 q0, .int .i64 q1, .int .i64 q2, .int .i64 q3] 40)).alloc (.cells #[.slice I k c2, .slice GA gn gc, .slice KA kn kc, .int .i64 s1, .int .i64 s2, .int .i64 s3] 46)) y).cell? ⟨w.heap.size + 1, 0, none⟩ = some (.slice I k c2) ∧ (ext ((w.alloc (.cells #[.slice A n c, .slice B m d, .int .i64 q0, .int .i64 q1, .int .i64 q2, .int .i64 q3] 40)).alloc (.cells #[.slice I k c2, .slice GA gn gc, .slice KA kn kc, .int .i64 s1, .int .i64 s2, .int .i64 s3] 46)) y).cell? ⟨w.heap.size + 1, 1, none⟩ = some (.slice GA gn gc) ∧ (ext ((w.alloc (.cells #[.slice A n c, .slice B m d, .int .i64 q0, .int .i64 q1, .int .i64 q2, .int .i64 q3] 40)).alloc (.cells #[.slice I k c2, .slice GA gn gc, .slice KA kn kc, .int .i64 s1, .int .i64 s2, .int .i64 s3] 46)) y).cell? ⟨w.heap.size + 1, 2, none⟩ = some (.slice KA kn kc) ∧ (ext ((w.alloc (.cells #[.slice A n c, .slice B m d, .int .i64 q0, .int .i64 q1, .int .i64 q2, .int .i64 q3] 40)).alloc (.cells #[.slice I k c2, .slice GA gn gc, .slice KA kn kc, .int .i64 s1, .int .i64 s2, .int .i64 s3] 46)) y).cell? ⟨w.heap.size + 1, 3, none⟩ = some (.int .i64 s1) ∧ (ext ((w.alloc (.cells #[.slice A n c, .slice B m d, .int .i64 q0, .int .i64 q1, .int .i64 q2, .int .i64 q3] 40)).alloc (.cells #[.slice I k c2, .slice GA gn gc, .slice KA kn kc, .int .i64 s1, .int .i64 s2, .int .i64 s3] 46)) y).cell? ⟨w.heap.size + 1, 4, none⟩ = some (.int .i64 s2) ∧ (ext ((w.alloc (.cells #[.slice A n c, .slice B m d, .int .i64 q0, .int .i64 q1, .int .i64 q2, .int .i64 q3] 40)).alloc (.cells #[.slice I k c2, .slice GA gn gc, .slice KA kn kc, .int .i64 s1, .int .i64 s2, .int .i64 s3] 46)) y).cell? ⟨w.heap.size + 1, 5, none⟩ = some (.int .i64 s3) := by refine ⟨?_, ?_, ?_, ?_, ?_, ?_, ?_, ?_, ?_, ?_, ?_, ?_⟩ <;> first | assumption | simp [*, go_sem]
      have hS := fun (W : World) (h : Below (ext ((w.alloc (.cells #[.slice A n c, .slice B m d, .int .i64 q0, .int .i64 q1, .int .i64 q2, .int .i64 q3] 40)).alloc (.cells #[.slice I k c2, .slice GA gn gc, .slice KA kn kc, .int .i64 s1, .int .i64 s2, .int .i64 s3] 46)) y).heap.size (ext ((w.alloc (.cells #[.slice A n c, .slice B m d, .int .i64 q0, .int .i64 q1, .int .i64 q2, .int .i64 q3] 40)).alloc (.cells #[.slice I k c2, .slice GA gn gc, .slice KA kn kc, .int .i64 s1, .int .i64 s2, .int .i64 s3] 46)) y) W) => (⟨(h.cell (p := ⟨w.heap.size, 0, none⟩) (by first | assumption | (simp [go_sem]; done) | (simp [go_sem]; omega))).trans hR.1, (h.cell (p := ⟨w.heap.size, 1, none⟩) (by first | assumption | (simp [go_sem]; done) | (simp [go_sem]; omega))).trans hR.2.1, (h.cell (p := ⟨w.heap.size, 2, none⟩) (by first | assumption | (simp [go_sem]; done) | (simp [go_sem]; omega))).trans hR.2.2.1, (h.cell (p := ⟨w.heap.size, 3, none⟩) (by first | assumption | (simp [go_sem]; done) | (simp [go_sem]; omega))).trans hR.2.2.2.1, (h.cell (p := ⟨w.heap.size, 4, none⟩) (by first | assumption | (simp [go_sem]; done) | (simp [go_sem]; omega))).trans hR.2.2.2.2.1, (h.cell (p := ⟨w.heap.size, 5, none⟩) (by first | assumption | (simp [go_sem]; done) | (simp [go_sem]; omega))).trans hR.2.2.2.2.2.1, (h.cell (p := ⟨w.heap.size + 1, 0, none⟩) (by first | assumption | (simp [go_sem]; done) | (simp [go_sem]; omega))).trans hR.2.2.2.2.2.2.1, (h.cell (p := ⟨w.heap.size + 1, 1, none⟩) (by first | assumption | (simp [go_sem]; done) | (simp [go_sem]; omega))).trans hR.2.2.2.2.2.2.2.1, (h.cell (p := ⟨w.heap.size + 1, 2, none⟩) (by first | assumption | (simp [go_sem]; done) | (simp [go_sem]; omega))).trans hR.2.2.2.2.2.2.2.2.1, (h.cell (p := ⟨w.heap.size + 1, 3, none⟩) (by first | assumption | (simp [go_sem]; done) | (simp [go_sem]; omega))).trans hR.2.2.2.2.2.2.2.2.2.1, (h.cell (p := ⟨w.heap.size + 1, 4, none⟩) (by first | assumption | (simp [go_sem]; done) | (simp [go_sem]; omega))).trans hR.2.2.2.2.2.2.2.2.2.2.1, (h.cell (p := ⟨w.heap.size + 1, 5, none⟩) (by first | assumption | (simp [go_sem]; done) | (simp [go_sem]; omega))).trans hR.2.2.2.2.2.2.2.2.2.2.2⟩ : W.cell? ⟨w.heap.size, 0, none⟩ = some (.slice A n c) ∧ W.cell? ⟨w.heap.size, 1, none⟩ = some (.slice B m d) ∧ W.cell? ⟨w.heap.size, 2, none⟩ = some (.int .i64 q0) ∧ W.cell? ⟨w.heap.size, 3, none⟩ = some (.int .i64 q1) ∧ W.cell? ⟨w.heap.size, 4, none⟩ = some (.int .i64 q2) ∧ W.cell? ⟨w.heap.size, 5, none⟩ = some (.int .i64 q3) ∧ W.cell? ⟨w.heap.size + 1, 0, none⟩ = some (.slice I k c2) ∧ W.cell? ⟨w.heap.size + 1, 1, none⟩ = some (.slice GA gn gc) ∧ W.cell? ⟨w.heap.size + 1, 2, none⟩ = some (.slice KA kn kc) ∧ W.cell? ⟨w.heap.size + 1, 3, none⟩ = some (.int .i64 s1) ∧ W.cell? ⟨w.heap.size + 1, 4, none⟩ = some (.int .i64 s2) ∧ W.cell? ⟨w.heap.size + 1, 5, none⟩ = some (.int .i64 s3))
      clear hR
      go_wp2
      go_region_held3 (fun w' => w'.cell? ⟨w.heap.size, 0, none⟩ = some (.slice A n c) ∧ w'.cell? ⟨w.heap.size, 1, none⟩ = some (.slice B m d) ∧ w'.cell? ⟨w.heap.size, 2, none⟩ = some (.int .i64 q0) ∧ w'.cell? ⟨w.heap.size, 3, none⟩ = some (.int .i64 q1) ∧ w'.cell? ⟨w.heap.size, 4, none⟩ = some (.int .i64 q2) ∧ w'.cell? ⟨w.heap.size, 5, none⟩ = some (.int .i64 q3) ∧ w'.cell? ⟨w.heap.size + 1, 0, none⟩ = some (.slice I k c2) ∧ w'.cell? ⟨w.heap.size + 1, 1, none⟩ = some (.slice GA gn gc) ∧ w'.cell? ⟨w.heap.size + 1, 2, none⟩ = some (.slice KA kn kc) ∧ w'.cell? ⟨w.heap.size + 1, 3, none⟩ = some (.int .i64 s1) ∧ w'.cell? ⟨w.heap.size + 1, 4, none⟩ = some (.int .i64 s2) ∧ w'.cell? ⟨w.heap.size + 1, 5, none⟩ = some (.int .i64 s3)) (exact hS _ (by repeat (first | exact Below.refl _ _ | assumption | refine bExt ?_ _ | refine bAlloc ?_ _ | refine bDrewN ?_ _ | refine bDrew ?_ | refine bSet ?_ (by first | exact Nat.le_refl _ | omega | (simp; done) | (simp; omega)) _))) (first
        | (go_at_call 73; ((with_reducible refine (cm _ (by repeat (first | exact Below.refl _ _ | assumption | refine bExt ?_ _ | refine bAlloc ?_ _ | refine bDrewN ?_ _ | refine bDrew ?_ | refine bSet ?_ (by first | exact Nat.le_refl _ | omega | (simp; done) | (simp; omega)) _))).mono ?_); rintro e w' ⟨rfl, x4, rfl⟩))
        | (go_at_call 74; ((with_reducible refine (cd _).mono ?_); rintro e w' ⟨rfl, x5, rfl⟩))
        | (go_at_call 39; ((with_reducible refine (ct _ (by repeat (first | exact Below.refl _ _ | assumption | refine bExt ?_ _ | refine bAlloc ?_ _ | refine bDrewN ?_ _ | refine bDrew ?_ | refine bSet ?_ (by first | exact Nat.le_refl _ | omega | (simp; done) | (simp; omega)) _))).mono ?_); rintro e w' ⟨rfl, x6, rfl⟩)))
      all_goals
        go_wp2
        go_ret
        exact ⟨ret_str (by rw [HV.out]), ext_ex (by repeat (first | exact Below.refl _ _ | assumption | refine bExt ?_ _ | refine bAlloc ?_ _ | refine bDrewN ?_ _ | refine bDrew ?_ | refine bSet ?_ (by first | exact Nat.le_refl _ | omega | (simp; done) | (simp; omega)) _))⟩
set_option maxHeartbeats 8000000 in
theorem protocolText_any (w : World) (A B : Option Addr) (n m c d : Nat) (els : List El) (q0 q1 q2 q3 : Int) (I : Option Addr) (n2 c2 : Nat) (its : List It) (GA KA : Option Addr) (gn gc kn kc : Nat) (gg kk : List (List Int)) (s1 s2 s3 : Int) (hM : PP w A n els I n2 c2 its GA gn gg) (hm : RdMk w GA gn KA kn gg kk) (hP : PerfG els q0 q1 q2 q3 its gg kk s1 s2 s3) (hTab : Tab w) (hSg : Sgn w) (sk fa : Int) (hsk : 1 ≤ sk ∧ sk ≤ 999) (hfa : 10 ≤ fa ∧ fa ≤ 400) :
    Calls Tryz.prog 45 #[.agg #[.slice A n c, .slice B m d, .int .i64 q0, .int .i64 q1, .int .i64 q2, .int .i64 q3], .agg #[.slice I n2 c2, .slice GA gn gc, .slice KA kn kc, .int .i64 s1, .int .i64 s2, .int .i64 s3], .int .i64 sk, .int .i64 fa] w (fun e w' => e = .returned (.string (textV els q0 q1 q2 q3 its gg kk s1 s2 s3 sk fa)) ∧ ∃ y, w' = ext w y) := by
  have cl := fun W k (hk : k < n2) (h : Below w.heap.size w W) => itemLine_any W A B n m c d els q0 q1 q2 q3 I n2 c2 its GA KA gn gc kn kc gg kk s1 s2 s3 (hM.below h) hP (hTab.below h) (hSg.below h) k hk
  have ct := fun W (h : Below w.heap.size w W) => totalsLine_any W A B n m c d els q0 q1 q2 q3 I n2 c2 its GA KA gn gc kn kc gg kk s1 s2 s3 (hM.below h) (hm.2.1.below h) hP fa hfa (hTab.below h)
  have hsl := slip_of hP.slip
  have hrw := slip_rows hP.slip
  obtain ⟨hgr, hkr⟩ := marks_rows hP.mks
  have hlen := hP.len
  have hmo := marksB_of hP.mks
  have Hl := Lib.hid hM.2.1.1.len
  have zm := marksS_size hgr hkr
  have zsl := numsS_size hrw
  have zt := totTo_size (parts_bd (factor := fa) hP hfa) 4 (Nat.le_refl 4)
  have zh := hdrS_size hsk hfa
  have zln := fun k (hk : k ≤ n2) => linesA_size (s := hdrS sk fa) (f := (lineS els q0 q1 q2 its gg)) k (fun j hj => lineS_size hP j (by rw [Hl.out]; omega))
  rw [Hl.out] at hlen
  have zp : ByteArray.size (⟨#[112, 114, 111, 116, 111, 99, 111, 108, 32]⟩ : ByteArray) = 9 := rfl
  have zl : ByteArray.size (⟨#[115, 108, 105, 112, 115, 32]⟩ : ByteArray) = 6 := rfl
  have zs : ByteArray.size (⟨#[32]⟩ : ByteArray) = 1 := rfl
  have ze : ByteArray.size (⟨#[10]⟩ : ByteArray) = 1 := rfl
  have zm2 : (marksS gg kk).size ≤ 1200 := by omega
  have HV : Hid (textV els q0 q1 q2 q3 its gg kk s1 s2 s3 sk fa = linesA (hdrS sk fa) (lineS els q0 q1 q2 its gg) n2 ++ marksS gg kk ++ (⟨#[115, 108, 105, 112, 115, 32]⟩ : ByteArray) ++ slipS s1 s2 s3 ++ (⟨#[10]⟩ : ByteArray) ++ totS els q0 q1 q2 q3 its gg kk s1 s2 s3 fa ++ (⟨#[10]⟩ : ByteArray)) := by unfold Hid textV; rw [Hl.out]
  have zsl2 : (slipS s1 s2 s3).size ≤ 63 := zsl
  have zt2 : (totS els q0 q1 q2 q3 its gg kk s1 s2 s3 fa).size ≤ 62 := zt
  have cm := fun W (h : Below w.heap.size w W) => marksText_any' W GA KA gn gc kn kc gg kk (hm.below h) hP.mks (hTab.below h)
  have cd := fun W (h : Below w.heap.size w W) => slipsText_any s1 s2 s3 W hP.slip hrw (hTab.below h)
  have cn := fun W A c1 (h1 : RdI W A 2 [sk, fa]) (h : Below w.heap.size w W) => numbersText_any W A 2 c1 [sk, fa] h1 (row_two (by omega) (by omega)) (hTab.below h)
  have zn := numsS_size (row_two (a := sk) (b := fa) (by omega) (by omega))
  have hzl := fun k (hk : k < n2) => lineS_size hP k (by rw [Hl.out]; exact hk)
  have HH : Hid (hdrS sk fa = (⟨#[112, 114, 111, 116, 111, 99, 111, 108, 32]⟩ : ByteArray) ++ numsS [sk, fa] ++ (⟨#[10]⟩ : ByteArray)) := hdrS_nums hsk hfa
  clear hM hm hP hsl hrw hgr hkr hmo zm zsl zt hTab hSg
  generalize numsS [sk, fa] = ns at *
  have f0 : Fit ((⟨#[112, 114, 111, 116, 111, 99, 111, 108, 32]⟩ : ByteArray) ++ ns) := by unfold Fit; simp only [ByteArray.size_append]; omega
  have f1 : Fit ((⟨#[112, 114, 111, 116, 111, 99, 111, 108, 32]⟩ : ByteArray) ++ ns ++ (⟨#[10]⟩ : ByteArray)) := by unfold Fit; simp only [ByteArray.size_append]; omega
  have hRs : ((w.alloc (.cells #[.slice A n c, .slice B m d, .int .i64 q0, .int .i64 q1, .int .i64 q2, .int .i64 q3] 40)).alloc (.cells #[.slice I n2 c2, .slice GA gn gc, .slice KA kn kc, .int .i64 s1, .int .i64 s2, .int .i64 s3] 46)).heap.size = w.heap.size + 2 := by simp [go_sem]
  have hB0 := Bld.new ((w.alloc (.cells #[.slice A n c, .slice B m d, .int .i64 q0, .int .i64 q1, .int .i64 q2, .int .i64 q3] 40)).alloc (.cells #[.slice I n2 c2, .slice GA gn gc, .slice KA kn kc, .int .i64 s1, .int .i64 s2, .int .i64 s3] 46))
  rw [hRs] at hB0
  have cw0 := fun W (h : Below (((w.alloc (.cells #[.slice A n c, .slice B m d, .int .i64 q0, .int .i64 q1, .int .i64 q2, .int .i64 q3] 40)).alloc (.cells #[.slice I n2 c2, .slice GA gn gc, .slice KA kn kc, .int .i64 s1, .int .i64 s2, .int .i64 s3] 46)).alloc (.cells #[.pointer none, .slice none 0 0] 103)).heap.size (((w.alloc (.cells #[.slice A n c, .slice B m d, .int .i64 q0, .int .i64 q1, .int .i64 q2, .int .i64 q3] 40)).alloc (.cells #[.slice I n2 c2, .slice GA gn gc, .slice KA kn kc, .int .i64 s1, .int .i64 s2, .int .i64 s3] 46)).alloc (.cells #[.pointer none, .slice none 0 0] 103)) W) => writeString_any (w.heap.size + 2) (w.heap.size + 2) ByteArray.empty ((⟨#[112, 114, 111, 116, 111, 99, 111, 108, 32]⟩ : ByteArray) ++ ns ++ (⟨#[10]⟩ : ByteArray)) W (hB0.below h) (by simp only [ByteArray.size_append]; have : ByteArray.empty.size = 0 := rfl; omega) (Nat.le_trans (by simp [go_sem]) h.size)
  rw [ByteArray.empty_append, ← HH.out] at cw0
  clear zn zp
  go_enter Tryz.func45, Tryz.ntmps45
  go_wp2_with ((go_at_call 76; ((with_reducible refine (cn _ _ _ (RdI.two_ (by simp [go_sem]) (by simp [go_sem]) (by simp [go_sem])) (by repeat (first | exact Below.refl _ _ | assumption | refine bExt ?_ _ | refine bAlloc ?_ _ | refine bDrewN ?_ _ | refine bDrew ?_ | refine bSet ?_ (by first | exact Nat.le_refl _ | omega | (simp; done) | (simp; omega)) _))).mono ?_); rintro e w' ⟨rfl, x1, rfl⟩)))
  rw [← HH.out]
  refine (cw0 _ (by repeat (first | exact Below.refl _ _ | assumption | refine bExt ?_ _ | refine bAlloc ?_ _ | refine bDrewN ?_ _ | refine bDrew ?_ | refine bSet ?_ (by first | exact Nat.le_refl _ | omega | (simp; done) | (simp; omega)) _))).mono ?_
  rintro e w' ⟨rfl, hB, hb⟩
  rw [← hRs] at hb
  obtain ⟨y, rfl⟩ := ext_ex (Below.trans (show Below ((w.alloc (.cells #[.slice A n c, .slice B m d, .int .i64 q0, .int .i64 q1, .int .i64 q2, .int .i64 q3] 40)).alloc (.cells #[.slice I n2 c2, .slice GA gn gc, .slice KA kn kc, .int .i64 s1, .int .i64 s2, .int .i64 s3] 46)).heap.size ((w.alloc (.cells #[.slice A n c, .slice B m d, .int .i64 q0, .int .i64 q1, .int .i64 q2, .int .i64 q3] 40)).alloc (.cells #[.slice I n2 c2, .slice GA gn gc, .slice KA kn kc, .int .i64 s1, .int .i64 s2, .int .i64 s3] 46)) _ from by repeat (first | exact Below.refl _ _ | assumption | refine bExt ?_ _ | refine bAlloc ?_ _ | refine bDrewN ?_ _ | refine bDrew ?_ | refine bSet ?_ (by first | exact Nat.le_refl _ | omega | (simp; done) | (simp; omega)) _)) hb)
  rw [hRs] at hb
  clear hb cw0 hB0
  go_wp2
  go_loopw [10, 25] (fun _ i wr => ∃ (k : Nat) (y : World), k ≤ n2 ∧ i = .int .i64 k ∧ wr = ext ((w.alloc (.cells #[.slice A n c, .slice B m d, .int .i64 q0, .int .i64 q1, .int .i64 q2, .int .i64 q3] 40)).alloc (.cells #[.slice I n2 c2, .slice GA gn gc, .slice KA kn kc, .int .i64 s1, .int .i64 s2, .int .i64 s3] 46)) y ∧ Bld (w.heap.size + 2) (w.heap.size + 2) (linesA (hdrS sk fa) (lineS els q0 q1 q2 its gg) k) (ext ((w.alloc (.cells #[.slice A n c, .slice B m d, .int .i64 q0, .int .i64 q1, .int .i64 q2, .int .i64 q3] 40)).alloc (.cells #[.slice I n2 c2, .slice GA gn gc, .slice KA kn kc, .int .i64 s1, .int .i64 s2, .int .i64 s3] 46)) y)) (fun _ i _ => n2 - (intOf i).toNat)
  case atStart => exact ⟨0, y, by omega, rfl, rfl, hB⟩
  case round =>
    obtain ⟨k, y, hk, rfl, rfl, hB⟩ := hrel
    have zk := zln k hk
    have hsz : w.heap.size + 2 ≤ (ext ((w.alloc (.cells #[.slice A n c, .slice B m d, .int .i64 q0, .int .i64 q1, .int .i64 q2, .int .i64 q3] 40)).alloc (.cells #[.slice I n2 c2, .slice GA gn gc, .slice KA kn kc, .int .i64 s1, .int .i64 s2, .int .i64 s3] 46)) y).heap.size := by rw [← hRs]; exact (show Below ((w.alloc (.cells #[.slice A n c, .slice B m d, .int .i64 q0, .int .i64 q1, .int .i64 q2, .int .i64 q3] 40)).alloc (.cells #[.slice I n2 c2, .slice GA gn gc, .slice KA kn kc, .int .i64 s1, .int .i64 s2, .int .i64 s3] 46)).heap.size ((w.alloc (.cells #[.slice A n c, .slice B m d, .int .i64 q0, .int .i64 q1, .int .i64 q2, .int .i64 q3] 40)).alloc (.cells #[.slice I n2 c2, .slice GA gn gc, .slice KA kn kc, .int .i64 s1, .int .i64 s2, .int .i64 s3] 46)) (ext ((w.alloc (.cells #[.slice A n c, .slice B m d, .int .i64 q0, .int .i64 q1, .int .i64 q2, .int .i64 q3] 40)).alloc (.cells #[.slice I n2 c2, .slice GA gn gc, .slice KA kn kc, .int .i64 s1, .int .i64 s2, .int .i64 s3] 46)) y) from by repeat (first | exact Below.refl _ _ | assumption | refine bExt ?_ _ | refine bAlloc ?_ _ | refine bDrewN ?_ _ | refine bDrew ?_ | refine bSet ?_ (by first | exact Nat.le_refl _ | omega | (simp; done) | (simp; omega)) _)).size
    by_cases hlt : k < n2
    · have HS : Hid (linesA (hdrS sk fa) (lineS els q0 q1 q2 its gg) (k + 1) = linesA (hdrS sk fa) (lineS els q0 q1 q2 its gg) k ++ ((lineS els q0 q1 q2 its gg) k ++ (⟨#[10]⟩ : ByteArray))) := rfl
      have zj := hzl k hlt
      have clk := fun W h => cl W k hlt h
      clear cl hzl zln
      generalize linesA (hdrS sk fa) (lineS els q0 q1 q2 its gg) k = s at *
      generalize (lineS els q0 q1 q2 its gg) k = ln at *
      have f5 : Fit (ln ++ (⟨#[10]⟩ : ByteArray)) := by unfold Fit; simp only [ByteArray.size_append]; omega
      have cw := fun W (h : Below (ext ((w.alloc (.cells #[.slice A n c, .slice B m d, .int .i64 q0, .int .i64 q1, .int .i64 q2, .int .i64 q3] 40)).alloc (.cells #[.slice I n2 c2, .slice GA gn gc, .slice KA kn kc, .int .i64 s1, .int .i64 s2, .int .i64 s3] 46)) y).heap.size (ext ((w.alloc (.cells #[.slice A n c, .slice B m d, .int .i64 q0, .int .i64 q1, .int .i64 q2, .int .i64 q3] 40)).alloc (.cells #[.slice I n2 c2, .slice GA gn gc, .slice KA kn kc, .int .i64 s1, .int .i64 s2, .int .i64 s3] 46)) y) W) => writeString_any (w.heap.size + 2) (w.heap.size + 2) s (ln ++ (⟨#[10]⟩ : ByteArray)) W (hB.below h) (by simp only [ByteArray.size_append]; omega) (Nat.le_trans hsz h.size)
      clear zk zj
      go_wp2_with ((go_at_call 32; ((with_reducible refine (clk _ (by repeat (first | exact Below.refl _ _ | assumption | refine bExt ?_ _ | refine bAlloc ?_ _ | refine bDrewN ?_ _ | refine bDrew ?_ | refine bSet ?_ (by first | exact Nat.le_refl _ | omega | (simp; done) | (simp; omega)) _))).mono ?_); rintro e w' ⟨rfl, x3, rfl⟩)))
      refine (cw _ (by repeat (first | exact Below.refl _ _ | assumption | refine bExt ?_ _ | refine bAlloc ?_ _ | refine bDrewN ?_ _ | refine bDrew ?_ | refine bSet ?_ (by first | exact Nat.le_refl _ | omega | (simp; done) | (simp; omega)) _))).mono ?_
      rintro e w' ⟨rfl, hB2, hb⟩
      rw [← hRs] at hb
      obtain ⟨y2, rfl⟩ := ext_ex (Below.trans (show Below ((w.alloc (.cells #[.slice A n c, .slice B m d, .int .i64 q0, .int .i64 q1, .int .i64 q2, .int .i64 q3] 40)).alloc (.cells #[.slice I n2 c2, .slice GA gn gc, .slice KA kn kc, .int .i64 s1, .int .i64 s2, .int .i64 s3] 46)).heap.size ((w.alloc (.cells #[.slice A n c, .slice B m d, .int .i64 q0, .int .i64 q1, .int .i64 q2, .int .i64 q3] 40)).alloc (.cells #[.slice I n2 c2, .slice GA gn gc, .slice KA kn kc, .int .i64 s1, .int .i64 s2, .int .i64 s3] 46)) (ext (ext ((w.alloc (.cells #[.slice A n c, .slice B m d, .int .i64 q0, .int .i64 q1, .int .i64 q2, .int .i64 q3] 40)).alloc (.cells #[.slice I n2 c2, .slice GA gn gc, .slice KA kn kc, .int .i64 s1, .int .i64 s2, .int .i64 s3] 46)) y) x3) from by repeat (first | exact Below.refl _ _ | assumption | refine bExt ?_ _ | refine bAlloc ?_ _ | refine bDrewN ?_ _ | refine bDrew ?_ | refine bSet ?_ (by first | exact Nat.le_refl _ | omega | (simp; done) | (simp; omega)) _)) hb)
      clear hb cw hsz
      go_wp2
      go_roundw
      case rel => exact ⟨k + 1, _, by omega, by go_num, rfl, by rw [HS.out]; exact hB2⟩
      case measure => simp [intOf]; omega
    · obtain rfl : k = n2 := by omega
      clear zln hzl cl
      generalize linesA (hdrS sk fa) (lineS els q0 q1 q2 its gg) k = s at *
      generalize marksS gg kk = ms at *
      generalize slipS s1 s2 s3 = sl at *
      generalize totS els q0 q1 q2 q3 its gg kk s1 s2 s3 fa = tt at *
      have f1 : Fit (ms ++ (⟨#[115, 108, 105, 112, 115, 32]⟩ : ByteArray)) := by unfold Fit; simp only [ByteArray.size_append]; omega
      have f2 : Fit (ms ++ (⟨#[115, 108, 105, 112, 115, 32]⟩ : ByteArray) ++ sl) := by unfold Fit; simp only [ByteArray.size_append]; omega
      have f3 : Fit (ms ++ (⟨#[115, 108, 105, 112, 115, 32]⟩ : ByteArray) ++ sl ++ (⟨#[10]⟩ : ByteArray)) := by unfold Fit; simp only [ByteArray.size_append]; omega
      have f4 : Fit (ms ++ (⟨#[115, 108, 105, 112, 115, 32]⟩ : ByteArray) ++ sl ++ (⟨#[10]⟩ : ByteArray) ++ tt) := by unfold Fit; simp only [ByteArray.size_append]; omega
      have f5 : Fit (ms ++ (⟨#[115, 108, 105, 112, 115, 32]⟩ : ByteArray) ++ sl ++ (⟨#[10]⟩ : ByteArray) ++ tt ++ (⟨#[10]⟩ : ByteArray)) := by unfold Fit; simp only [ByteArray.size_append]; omega
      have hsum : s ++ (ms ++ (⟨#[115, 108, 105, 112, 115, 32]⟩ : ByteArray) ++ sl ++ (⟨#[10]⟩ : ByteArray) ++ tt ++ (⟨#[10]⟩ : ByteArray)) = s ++ ms ++ (⟨#[115, 108, 105, 112, 115, 32]⟩ : ByteArray) ++ sl ++ (⟨#[10]⟩ : ByteArray) ++ tt ++ (⟨#[10]⟩ : ByteArray) := by simp only [ByteArray.append_assoc]
      have cw := fun W (h : Below (ext ((w.alloc (.cells #[.slice A n c, .slice B m d, .int .i64 q0, .int .i64 q1, .int .i64 q2, .int .i64 q3] 40)).alloc (.cells #[.slice I k c2, .slice GA gn gc, .slice KA kn kc, .int .i64 s1, .int .i64 s2, .int .i64 s3] 46)) y).heap.size (ext ((w.alloc (.cells #[.slice A n c, .slice B m d, .int .i64 q0, .int .i64 q1, .int .i64 q2, .int .i64 q3] 40)).alloc (.cells #[.slice I k c2, .slice GA gn gc, .slice KA kn kc, .int .i64 s1, .int .i64 s2, .int .i64 s3] 46)) y) W) => writeString_any (w.heap.size + 2) (w.heap.size + 2) s (ms ++ (⟨#[115, 108, 105, 112, 115, 32]⟩ : ByteArray) ++ sl ++ (⟨#[10]⟩ : ByteArray) ++ tt ++ (⟨#[10]⟩ : ByteArray)) W (hB.below h) (by simp only [ByteArray.size_append]; omega) (Nat.le_trans hsz h.size)
      rw [hsum, ← HV.out] at cw
      clear hsum HV zk zm2 zsl2 zt2 zl zs ze zh hlen
      go_wp2_with (first
        | (go_at_call 77; ((with_reducible refine (cm _ (by repeat (first | exact Below.refl _ _ | assumption | refine bExt ?_ _ | refine bAlloc ?_ _ | refine bDrewN ?_ _ | refine bDrew ?_ | refine bSet ?_ (by first | exact Nat.le_refl _ | omega | (simp; done) | (simp; omega)) _))).mono ?_); rintro e w' ⟨x4, rfl, rfl⟩))
        | (go_at_call 78; ((with_reducible refine (cd _ (by repeat (first | exact Below.refl _ _ | assumption | refine bExt ?_ _ | refine bAlloc ?_ _ | refine bDrewN ?_ _ | refine bDrew ?_ | refine bSet ?_ (by first | exact Nat.le_refl _ | omega | (simp; done) | (simp; omega)) _))).mono ?_); rintro e w' ⟨x5, rfl, rfl⟩))
        | (go_at_call 41; ((with_reducible refine (ct _ (by repeat (first | exact Below.refl _ _ | assumption | refine bExt ?_ _ | refine bAlloc ?_ _ | refine bDrewN ?_ _ | refine bDrew ?_ | refine bSet ?_ (by first | exact Nat.le_refl _ | omega | (simp; done) | (simp; omega)) _))).mono ?_); rintro e w' ⟨rfl, x6, rfl⟩)))
      refine (cw _ (by repeat (first | exact Below.refl _ _ | assumption | refine bExt ?_ _ | refine bAlloc ?_ _ | refine bDrewN ?_ _ | refine bDrew ?_ | refine bSet ?_ (by first | exact Nat.le_refl _ | omega | (simp; done) | (simp; omega)) _))).mono ?_
      rintro e w' ⟨rfl, hB2, hb⟩
      rw [← hRs] at hb
      obtain ⟨y2, rfl⟩ := ext_ex (Below.trans (show Below ((w.alloc (.cells #[.slice A n c, .slice B m d, .int .i64 q0, .int .i64 q1, .int .i64 q2, .int .i64 q3] 40)).alloc (.cells #[.slice I k c2, .slice GA gn gc, .slice KA kn kc, .int .i64 s1, .int .i64 s2, .int .i64 s3] 46)).heap.size ((w.alloc (.cells #[.slice A n c, .slice B m d, .int .i64 q0, .int .i64 q1, .int .i64 q2, .int .i64 q3] 40)).alloc (.cells #[.slice I k c2, .slice GA gn gc, .slice KA kn kc, .int .i64 s1, .int .i64 s2, .int .i64 s3] 46)) (ext (ext (ext (ext ((w.alloc (.cells #[.slice A n c, .slice B m d, .int .i64 q0, .int .i64 q1, .int .i64 q2, .int .i64 q3] 40)).alloc (.cells #[.slice I k c2, .slice GA gn gc, .slice KA kn kc, .int .i64 s1, .int .i64 s2, .int .i64 s3] 46)) y) x4) x5) x6) from by repeat (first | exact Below.refl _ _ | assumption | refine bExt ?_ _ | refine bAlloc ?_ _ | refine bDrewN ?_ _ | refine bDrew ?_ | refine bSet ?_ (by first | exact Nat.le_refl _ | omega | (simp; done) | (simp; omega)) _)) hb)
      clear hb cw hsz
      have cs := buildString_any (w.heap.size + 2) (w.heap.size + 2) _ _ hB2 (by rw [← hRs]; exact (show Below ((w.alloc (.cells #[.slice A n c, .slice B m d, .int .i64 q0, .int .i64 q1, .int .i64 q2, .int .i64 q3] 40)).alloc (.cells #[.slice I k c2, .slice GA gn gc, .slice KA kn kc, .int .i64 s1, .int .i64 s2, .int .i64 s3] 46)).heap.size ((w.alloc (.cells #[.slice A n c, .slice B m d, .int .i64 q0, .int .i64 q1, .int .i64 q2, .int .i64 q3] 40)).alloc (.cells #[.slice I k c2, .slice GA gn gc, .slice KA kn kc, .int .i64 s1, .int .i64 s2, .int .i64 s3] 46)) (ext ((w.alloc (.cells #[.slice A n c, .slice B m d, .int .i64 q0, .int .i64 q1, .int .i64 q2, .int .i64 q3] 40)).alloc (.cells #[.slice I k c2, .slice GA gn gc, .slice KA kn kc, .int .i64 s1, .int .i64 s2, .int .i64 s3] 46)) y2) from by repeat (first | exact Below.refl _ _ | assumption | refine bExt ?_ _ | refine bAlloc ?_ _ | refine bDrewN ?_ _ | refine bDrew ?_ | refine bSet ?_ (by first | exact Nat.le_refl _ | omega | (simp; done) | (simp; omega)) _)).size)
      go_wp2_with fail
      refine cs.mono ?_
      rintro e w' ⟨rfl, hb⟩
      rw [← hRs] at hb
      obtain ⟨y3, rfl⟩ := ext_ex (Below.trans (show Below ((w.alloc (.cells #[.slice A n c, .slice B m d, .int .i64 q0, .int .i64 q1, .int .i64 q2, .int .i64 q3] 40)).alloc (.cells #[.slice I k c2, .slice GA gn gc, .slice KA kn kc, .int .i64 s1, .int .i64 s2, .int .i64 s3] 46)).heap.size ((w.alloc (.cells #[.slice A n c, .slice B m d, .int .i64 q0, .int .i64 q1, .int .i64 q2, .int .i64 q3] 40)).alloc (.cells #[.slice I k c2, .slice GA gn gc, .slice KA kn kc, .int .i64 s1, .int .i64 s2, .int .i64 s3] 46)) (ext ((w.alloc (.cells #[.slice A n c, .slice B m d, .int .i64 q0, .int .i64 q1, .int .i64 q2, .int .i64 q3] 40)).alloc (.cells #[.slice I k c2, .slice GA gn gc, .slice KA kn kc, .int .i64 s1, .int .i64 s2, .int .i64 s3] 46)) y2) from by repeat (first | exact Below.refl _ _ | assumption | refine bExt ?_ _ | refine bAlloc ?_ _ | refine bDrewN ?_ _ | refine bDrew ?_ | refine bSet ?_ (by first | exact Nat.le_refl _ | omega | (simp; done) | (simp; omega)) _)) hb)
      go_wp2
      go_ret
      exact ⟨ret_str rfl, ext_ex (by repeat (first | exact Below.refl _ _ | assumption | refine bExt ?_ _ | refine bAlloc ?_ _ | refine bDrewN ?_ _ | refine bDrew ?_ | refine bSet ?_ (by first | exact Nat.le_refl _ | omega | (simp; done) | (simp; omega)) _))⟩
end Go.Proofs.YtfmidngndddfiaaGreatDoor
