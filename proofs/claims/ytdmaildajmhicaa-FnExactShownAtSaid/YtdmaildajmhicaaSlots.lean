/- Slices of slots (two ints each): how they read, and the contracts of the functions that copy and compare them. Conditions: lengths below 2^40. -/
import Derived.Test.YtdmaildajmhicaaL1
import Derived.StillTailTactics
set_option linter.unusedVariables false
set_option linter.unusedSimpArgs false
set_option maxRecDepth 100000
namespace Go.Proofs.Ytdmaildajmhicaa
open Go.RowKit
def slotCells (l : List (Int × Int)) : List Value := l.flatMap fun p => [.int .i64 p.1, .int .i64 p.2]
theorem slotCells_len (l : List (Int × Int)) : (slotCells l).length = l.length * 2 := by
  unfold slotCells
  induction l with
  | nil => rfl
  | cons a r ih => simp only [List.flatMap_cons, List.length_append, ih]; simp; omega
theorem slotCells_get0 (l : List (Int × Int)) (k : Nat) (h : k < l.length) : (slotCells l)[k * 2]? = some (.int .i64 (l[k]?.getD (0, 0)).1) := by
  induction l generalizing k with
  | nil => simp at h
  | cons a r ih =>
    cases k with
    | zero => simp [slotCells]
    | succ k =>
      have : (slotCells (a :: r))[(k + 1) * 2]? = (slotCells r)[k * 2]? := by
        rw [show (k + 1) * 2 = k * 2 + 1 + 1 by omega]
        simp [slotCells]
      rw [this, ih k (by simpa using h)]
      simp
theorem slotCells_get1 (l : List (Int × Int)) (k : Nat) (h : k < l.length) : (slotCells l)[k * 2 + 1]? = some (.int .i64 (l[k]?.getD (0, 0)).2) := by
  induction l generalizing k with
  | nil => simp at h
  | cons a r ih =>
    cases k with
    | zero => simp [slotCells]
    | succ k =>
      have : (slotCells (a :: r))[(k + 1) * 2 + 1]? = (slotCells r)[k * 2 + 1]? := by
        rw [show (k + 1) * 2 + 1 = k * 2 + 1 + 1 + 1 by omega]
        simp [slotCells]
      rw [this, ih k (by simpa using h)]
      simp
/-- A slice of slots reads as the list l. -/
def RdS (w : World) (A : Option Addr) (n : Nat) (l : List (Int × Int)) : Prop := Rd 2 w A n (slotCells l)
section
variable {n : Nat} {w w' : World} {A : Option Addr} {l : List (Int × Int)}
theorem RdS.below (h : RdS w A n l) (hb : Below w.heap.size w w') : RdS w' A n l := Rd.below h hb
theorem RdS.len (h : RdS w A n l) : l.length = n := by have := h.1; rw [slotCells_len] at this; omega
theorem RdS.at_ (h : RdS w A n l) (k : Nat) (hk : k < n) : ∃ b off, A = some ⟨b, off, none⟩ ∧ b < w.heap.size ∧ w.cell? ⟨b, off + k * 2, none⟩ = some (.int .i64 (l[k]?.getD (0, 0)).1) ∧ w.cell? ⟨b, off + k * 2 + 1, none⟩ = some (.int .i64 (l[k]?.getD (0, 0)).2) := by
  have hl := h.len
  obtain ⟨b, off, e, hlt, hc⟩ := h.2 (by omega)
  exact ⟨b, off, e, hlt, hc _ _ (slotCells_get0 l k (by omega)), hc (k * 2 + 1) _ (slotCells_get1 l k (by omega))⟩
theorem slotCells_take (l : List (Int × Int)) (k : Nat) : slotCells (l.take k) = (slotCells l).take (k * 2) := by
  induction l generalizing k with
  | nil => simp [slotCells]
  | cons a r ih =>
    cases k with
    | zero => simp [slotCells]
    | succ k =>
      have e : slotCells (a :: r) = .int .i64 a.1 :: .int .i64 a.2 :: slotCells r := by simp [slotCells]
      rw [e, show (k + 1) * 2 = k * 2 + 1 + 1 by omega]
      simp only [List.take_succ_cons, ← ih]
      simp [slotCells]
theorem RdS.take_ (h : RdS w A n l) (k : Nat) (hk : k ≤ n) : RdS w A k (l.take k) := by
  unfold RdS
  rw [slotCells_take]
  exact Rd.take_ h k hk
theorem RdS.nil_ : RdS w A 0 [] := ⟨by simp [slotCells], fun h => absurd h (by omega)⟩
end
theorem eqSlot_any (a b c d : Int) (w : World) :
    Calls Try.prog 54 #[.agg #[.int .i64 a, .int .i64 b], .agg #[.int .i64 c, .int .i64 d]] w fun e w' => e = .returned (.bool ((a, b) == (c, d))) ∧ ∃ x, w' = ext w x := by
  have e : ((a, b) == (c, d)) = (a == c && b == d) := rfl
  rw [e]
  go_enter Try.func54, Try.ntmps54
  go_wp2
  all_goals go_ret
  all_goals exact ⟨by simp_all, ext_ex (by repeat (first | exact Below.refl _ _ | assumption | refine bExt ?_ _ | refine bAlloc ?_ _ | refine bDrewN ?_ _ | refine bDrew ?_ | refine bSet ?_ (by first | exact Nat.le_refl _ | omega | (simp; done) | (simp; omega)) _))⟩
set_option maxHeartbeats 400000 in
theorem eqSlotS_any (w : World) (A B : Option Addr) (n m c d : Nat) (l : List (Int × Int)) (ha : RdS w A n l) (hb : RdS w B m l) (hn : n ≤ 1099511627776) :
    Calls Try.prog 17 #[.slice A n c, .slice B m d] w fun e w' => e = .returned (.bool true) ∧ ∃ x, w' = ext w x := by
  obtain rfl : n = m := ha.len.symm.trans hb.len
  go_enter Try.func17, Try.ntmps17
  go_wp2
  go_loopw [5] (fun i wr => ∃ k x, k ≤ n ∧ i = .int .i64 (k : Nat) ∧ wr = ext w x) (fun i _ => n - (intOf i).toNat)
  case atStart => exact ⟨0, _, Nat.zero_le _, rfl, ext_self w⟩
  case round =>
    obtain ⟨k, x, hk, rfl, rfl⟩ := hrel
    by_cases hlt : k < n
    · obtain ⟨b1, o1, rfl, hb1, hc1, hd1⟩ := ha.at_ k hlt
      obtain ⟨b2, o2, rfl, hb2, hc2, hd2⟩ := hb.at_ k hlt
      go_wp2
      go_still_tail 8, (by kernel_rfl)
      change wpList _ _ _ _ _ (ext w x).drew
      go_wp2_with (go_at_call 54; ((with_reducible refine (eqSlot_any _ _ _ _ _).mono ?_); rintro e w' ⟨rfl, y, rfl⟩))
      go_roundw
      case rel => exact ⟨k + 1, _, by omega, by go_num, (ext_ex (by repeat (first | exact Below.refl _ _ | assumption | refine bExt ?_ _ | refine bAlloc ?_ _ | refine bDrewN ?_ _ | refine bDrew ?_ | refine bSet ?_ (by first | exact Nat.le_refl _ | omega | (simp; done) | (simp; omega)) _))).choose_spec⟩
      case measure => simp [intOf]; omega
    · go_wp2
      go_ret
      exact ⟨rfl, _, rfl⟩
theorem toSlot_any (a b : Int) (w : World) :
    Calls Try.prog 50 #[.agg #[.int .i64 a, .int .i64 b]] w fun e w' => e = .returned (.agg #[.int .i64 a, .int .i64 b]) ∧ ∃ x, w' = ext w x := by
  go_enter Try.func50, Try.ntmps50
  go_wp2
  exact bodyPost_ret (v := .agg #[.int .i64 a, .int .i64 b]) (by simp [results, Try.results50, go_sem]) rfl ⟨rfl, ext_ex (by repeat (first | exact Below.refl _ _ | assumption | refine bExt ?_ _ | refine bAlloc ?_ _ | refine bDrewN ?_ _ | refine bDrew ?_ | refine bSet ?_ (by first | exact Nat.le_refl _ | omega | (simp; done) | (simp; omega)) _))⟩
theorem slot_info : (Try.prog.info? 74).map (fun i => (i.zero, i.size, i.bytes)) = some (some (.agg #[.int .i64 0, .int .i64 0]), 2, 16) := by kernel_rfl
/-- A row of slots of the call's own. -/
def OwS (base : Nat) (w : World) (A : Option Addr) (n c : Nat) (l : List (Int × Int)) : Prop := Ow 74 2 base w A n c (slotCells l)
theorem slotCells_set (m : List (Int × Int)) (k : Nat) (a b : Int) (h : k < m.length) : ((slotCells m).set (k * 2) (.int .i64 a)).set (k * 2 + 1) (.int .i64 b) = slotCells (m.set k (a, b)) := by
  induction m generalizing k with
  | nil => simp at h
  | cons p r ih =>
    cases k with
    | zero => simp [slotCells]
    | succ k =>
      have e : slotCells (p :: r) = .int .i64 p.1 :: .int .i64 p.2 :: slotCells r := by simp [slotCells]
      rw [e, show (k + 1) * 2 = k * 2 + 1 + 1 by omega]
      simp only [List.set_cons_succ]
      rw [ih k (by simpa using h)]
      simp [slotCells]
theorem slotCells_replicate (n : Nat) : slotCells (List.replicate n (0, 0)) = List.replicate (n * 2) (.int .i64 0) := by
  induction n with
  | zero => rfl
  | succ n ih => rw [List.replicate_succ, show (n + 1) * 2 = n * 2 + 1 + 1 by omega, List.replicate_succ, List.replicate_succ, ← ih]; simp [slotCells]
section
variable {base base' n c : Nat} {w w' : World} {A : Option Addr} {l : List (Int × Int)}
theorem OwS.len (h : OwS base w A n c l) : l.length = n := by have := Ow.len h; rw [slotCells_len] at this; omega
theorem OwS.below (h : OwS base w A n c l) (hb : Below w.heap.size w w') : OwS base w' A n c l := Ow.below h hb
theorem OwS.kept {row : Option Nat} (h : OwS base w A n c l) (hg : w.grownBy w' row) (hne : blkOf A = none ∨ blkOf A ≠ row) : OwS base w' A n c l := Ow.kept h hg hne
theorem OwS.mono (h : OwS base w A n c l) (hb : base' ≤ base) : OwS base' w A n c l := Ow.mono h hb
theorem OwS.nil_ : OwS base w none 0 0 [] := Ow.nil_
theorem OwS.rd (h : OwS base w A n c l) : RdS w A n l := Ow.rd h
theorem OwS.blk (h : OwS base w A n c l) {g : Nat} (hA : blkOf A = some g) : base ≤ g ∧ g < w.heap.size := Ow.blk h hA
theorem OwS.form_ (h : OwS base w A n c l) (hn : 0 < n) : ∃ g, A = some ⟨g, 0, none⟩ ∧ base ≤ g ∧ g < w.heap.size := Ow.form_ h hn
theorem OwS.cell_ {g : Nat} (h : OwS base w (some ⟨g, 0, none⟩) n c l) (k : Nat) (hk : k < n) : w.cell? ⟨g, k * 2, none⟩ = some (.int .i64 (l[k]?.getD (0, 0)).1) ∧ w.cell? ⟨g, k * 2 + 1, none⟩ = some (.int .i64 (l[k]?.getD (0, 0)).2) := by
  have hl := h.len
  rw [Ow.cell_ h _ (by omega), Ow.cell_ h _ (by omega)]
  exact ⟨slotCells_get0 l k (by omega), slotCells_get1 l k (by omega)⟩
theorem OwS.frozen_ {g : Nat} (h : OwS base w (some ⟨g, 0, none⟩) n c l) (j : Nat) : w.frozen? ⟨g, j, none⟩ = false := Ow.frozen_ h j
theorem OwS.stored_ {g : Nat} (h : OwS base w (some ⟨g, 0, none⟩) n c l) (k : Nat) (hk : k < n) (a b : Int) :
    OwS base ((w.setCell ⟨g, k * 2, none⟩ (.int .i64 a)).setCell ⟨g, k * 2 + 1, none⟩ (.int .i64 b)) (some ⟨g, 0, none⟩) n c (l.set k (a, b)) ∧
    w.grownBy ((w.setCell ⟨g, k * 2, none⟩ (.int .i64 a)).setCell ⟨g, k * 2 + 1, none⟩ (.int .i64 b)) (some g) := by
  have h1 := Ow.stored_ h (k * 2) (.int .i64 a)
  have h2 := Ow.stored_ h1.1 (k * 2 + 1) (.int .i64 b)
  rw [slotCells_set _ _ _ _ (by rw [h.len]; exact hk)] at h2
  exact ⟨h2.1, h1.2.trans h2.2⟩
end
/-- What a function that hands back slots in new memory ends with. -/
def RetS (w : World) (l : List (Int × Int)) (e : Ending) (w' : World) : Prop := ∃ A n c x, e = .returned (.slice A n c) ∧ w' = ext w x ∧ OwS w.heap.size (ext w x) A n c l
theorem RetS.mk_ {w W : World} {base : Nat} {A : Option Addr} {n c : Nat} {l : List (Int × Int)} (ho : OwS base W A n c l) (hbase : w.heap.size ≤ base) (hb : Below w.heap.size w W) : RetS w l (.returned (.slice A n c)) W := by
  obtain ⟨x, rfl⟩ := ext_ex hb
  exact ⟨A, n, c, x, rfl, rfl, ho.mono hbase⟩
theorem slots_made (n : Nat) : (madeCells (Value.agg #[.int .i64 0, .int .i64 0]).cells (n * 2)).toList = slotCells (List.replicate n (0, 0)) := by
  rw [slotCells_replicate]
  apply List.ext_getElem?
  intro i
  by_cases h : i < n * 2
  · have h2 : i % 2 = 0 ∨ i % 2 = 1 := by omega
    rcases h2 with h2 | h2 <;> simp [madeCells, h, Value.cells, h2]
  · simp [madeCells, h]
set_option maxHeartbeats 400000 in
theorem toSlotS_any (w : World) (A : Option Addr) (n c : Nat) (l : List (Int × Int)) (ha : RdS w A n l) (hn : n ≤ 1099511627776) :
    Calls Try.prog 14 #[.slice A n c] w (RetS w l) := by
  obtain ⟨i0, hi0, hz0, hz1, hz2⟩ := info_parts slot_info
  have Hl := Lib.hid ha.len
  go_enter Try.func14, Try.ntmps14
  go_wp2_with (at_make; refine wpList_make_full w rfl _ _ _ rfl w.heap.size 74 i0 _ 2 Try.underlying28 hi0 hz0 hz1 .i64 .i64 _ _ n rfl rfl rfl rfl (by rw [hz2]; omega) (by simp only [maxLen]; omega) (Nat.le_refl _) ?_; intro w1 hown1 hg1)
  have hb1 : Below w.heap.size w w1 := below_grown (Below.refl _ _) hg1 (by simp)
  rw [slots_made] at hown1
  have o1 : OwS w.heap.size w1 (some ⟨w.heap.size, 0, none⟩) n n (fillL l 0 n (0, 0)) := by rw [fillL_zero]; exact hown1
  clear hown1 hg1
  obtain ⟨x1, rfl⟩ := ext_ex hb1
  go_loopw [4] (fun i wr => ∃ (k : Nat) (x : World), k ≤ n ∧ i = .int .i64 k ∧ wr = ext w x ∧ OwS w.heap.size (ext w x) (some ⟨w.heap.size, 0, none⟩) n n (fillL l k n (0, 0))) (fun i _ => n - (intOf i).toNat)
  case atStart => exact ⟨0, x1, by omega, rfl, rfl, o1⟩
  case round =>
    obtain ⟨k, x, hk, rfl, rfl, ho⟩ := hrel
    by_cases hlt : k < n
    · obtain ⟨b, off, rfl, hb, hc0, hc1⟩ := ha.at_ k hlt
      have HF := Lib.hid (fillL_step l k n (0, 0) Hl.out hlt)
      go_wp2_with (go_at_call 50; ((with_reducible refine (toSlot_any _ _ _).mono ?_); rintro e w' ⟨rfl, y, rfl⟩; have ho2 := ho.below (ext_below _ y); have hcc := ho2.cell_ k hlt; obtain ⟨hcc0, hcc1⟩ := hcc; have hff0 := ho2.frozen_ (k * 2); have hff1 := ho2.frozen_ (k * 2 + 1)))
      have hst := ho2.stored_ k hlt (l[k]?.getD (0, 0)).1 (l[k]?.getD (0, 0)).2
      rw [HF.out] at hst
      have hbn : Below w.heap.size w (((ext (ext w x) y).setCell ⟨w.heap.size, k * 2, none⟩ (.int .i64 (l[k]?.getD (0, 0)).1)).setCell ⟨w.heap.size, k * 2 + 1, none⟩ (.int .i64 (l[k]?.getD (0, 0)).2)) := by repeat (first | exact Below.refl _ _ | assumption | refine bExt ?_ _ | refine bAlloc ?_ _ | refine bDrewN ?_ _ | refine bDrew ?_ | refine bSet ?_ (by first | exact Nat.le_refl _ | omega | (simp; done) | (simp; omega)) _)
      obtain ⟨z, hz⟩ := ext_ex hbn
      go_roundw
      case rel => exact ⟨k + 1, z, by omega, by go_num, hz, by rw [← hz]; exact hst.1⟩
      case measure => simp [intOf]; omega
    · have hkn := Lib.hid (show k = n by omega)
      go_wp2
      go_ret
      rw [hkn.out, fillL_end _ _ _ Hl.out] at ho
      exact RetS.mk_ ho (Nat.le_refl _) (ext_below _ _)
theorem szSlotS_any (w : World) (A : Option Addr) (n c : Nat) (left : Int) (hl : 0 ≤ left) (hl2 : left ≤ 1099511627776) (hn : n ≤ 9223372036854775807) :
    Calls Try.prog 12 #[.slice A n c, .int .i64 left] w fun e w' => e = .returned (.int .i64 (if left < n then -1 else left - n)) ∧ w = w' := by
  by_cases h : left < n
  · rw [if_pos h]
    go_enter Try.func12, Try.ntmps12
    go_wp2
    go_ret
    exact ⟨rfl, rfl⟩
  · rw [if_neg h]
    go_enter Try.func12, Try.ntmps12
    go_wp2
    go_ret
    exact ⟨rfl, rfl⟩
def marksS (q : Int) (n : Nat) : List (Int × Int) := (List.range n).map fun (i : Nat) => (q + 2 * i, q + 2 * i + 1)
theorem marksS_step (q : Int) (l : List (Int × Int)) (k : Nat) (h : k < l.length) : (marksS q k ++ l.drop k).set k (q + 2 * k, q + 2 * k + 1) = marksS q (k + 1) ++ l.drop (k + 1) := by
  have e : (marksS q k).length = k := by simp [marksS]
  rw [List.set_append_right _ _ (by omega), e, Nat.sub_self, List.drop_eq_getElem_cons h, List.set_cons_zero]
  simp [marksS, List.range_succ]
set_option maxHeartbeats 400000 in
theorem markSlotS_any (w : World) (base : Nat) (A : Option Addr) (n c : Nat) (l : List (Int × Int)) (q : Int) (ha : OwS base w A n c l) (hn : n ≤ 1099511627776) (hq : 0 ≤ q) (hq2 : q ≤ 1099511627776) :
    Calls Try.prog 21 #[.slice A n c, .int .i64 q] w fun e w' => e = .returned (.int .i64 (q + 2 * n)) ∧ OwS base w' A n c (marksS q n) ∧ w.grownBy w' (blkOf A) := by
  have Hl := Lib.hid ha.len
  go_enter Try.func21, Try.ntmps21
  go_wp2
  go_loopw [1, 5] (fun t i wr => ∃ k : Nat, k ≤ n ∧ i = .int .i64 k ∧ t = .int .i64 (q + 2 * k) ∧ OwS base wr A n c (marksS q k ++ l.drop k) ∧ w.grownBy wr (blkOf A)) (fun _ i _ => n - (intOf i).toNat)
  case atStart => exact ⟨0, by omega, rfl, by simp, by simpa [marksS] using ha, World.grownBy.refl _ _⟩
  case round =>
    obtain ⟨k, hk, rfl, rfl, ho, hg⟩ := hrel
    by_cases hlt : k < n
    · obtain ⟨g, rfl, hb, hz⟩ := ho.form_ (by omega)
      have hc := ho.cell_ k hlt
      obtain ⟨hc0, hc1⟩ := hc
      have hf0 := ho.frozen_ (k * 2)
      have hf1 := ho.frozen_ (k * 2 + 1)
      have hst := ho.stored_ k hlt (q + 2 * k) (q + 2 * k + 1)
      rw [marksS_step q l k (by rw [Hl.out]; exact hlt)] at hst
      have Hst := Lib.hid hst
      clear hst
      obtain ⟨u, hu⟩ : ∃ u, (marksS q k ++ l.drop k)[k]?.getD (0, 0) = u := ⟨_, rfl⟩
      rw [hu] at hc0 hc1
      clear hu
      go_wp2
      go_roundw
      case rel => exact ⟨k + 1, by omega, by go_num, by go_num, Hst.out.1, hg.trans Hst.out.2⟩
      case measure => simp [intOf]; omega
    · have hkn := Lib.hid (show k = n by omega)
      go_wp2
      go_ret
      refine ⟨ret_int (by rw [hkn.out]), ?_, hg⟩
      have := ho
      rw [List.drop_of_length_le (by rw [Hl.out]; omega), List.append_nil, hkn.out] at this
      exact this
end Go.Proofs.Ytdmaildajmhicaa
