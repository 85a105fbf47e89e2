/- Contracts of the functions that divide slots into groups (tiGroups, evenSizes, warmUpGroups, WarmUpGroups), and of slices.Reverse at ints. Conditions: numbers from 1 to 1000000; lengths below 2^40. -/
import Derived.Test.YtpjaiihkgeabiaaDoorL1
import Derived.Test.YtpjaiihkgeabiaaDoorDay
set_option linter.unusedVariables false
set_option linter.unusedSimpArgs false
set_option maxRecDepth 100000
namespace Go.Proofs.YtpjaiihkgeabiaaDoor
open Go.RowKit
def revK (l : List Int) (k : Nat) : List Int := (List.range l.length).map fun i => if i < k ∨ l.length - k ≤ i then l[l.length - 1 - i]?.getD 0 else l[i]?.getD 0
theorem revK_len (l : List Int) (k : Nat) : (revK l k).length = l.length := by simp [revK]
theorem revK_get (l : List Int) (k i : Nat) (h : i < l.length) : (revK l k)[i]?.getD 0 = if i < k ∨ l.length - k ≤ i then l[l.length - 1 - i]?.getD 0 else l[i]?.getD 0 := by simp [revK, h]
theorem revK_zero (l : List Int) : revK l 0 = l := by
  apply List.ext_getElem (by simp [revK])
  intro i h1 h2
  simp only [revK_len] at h1
  simp [revK, h1]
  intro hh; omega
theorem revK_all (l : List Int) (k : Nat) (h : l.length ≤ 2 * k + 1) : revK l k = l.reverse := by
  apply List.ext_getElem (by simp [revK])
  intro i h1 h2
  simp only [revK_len] at h1
  rw [List.getElem_reverse]
  simp only [revK, List.getElem_map, List.getElem_range]
  have hj : l.length - 1 - i < l.length := by omega
  split
  · simp [hj]
  · have : i = l.length - 1 - i := by omega
    rw [List.getElem?_eq_getElem h1]
    simp only [Option.getD_some]
    congr 1
theorem revK_step (l : List Int) (k : Nat) (h : 2 * k + 1 < l.length) : ((revK l k).set k (l[l.length - 1 - k]?.getD 0)).set (l.length - 1 - k) (l[k]?.getD 0) = revK l (k + 1) := by
  apply List.ext_getElem (by simp [revK])
  intro i h1 h2
  simp only [revK_len] at h2
  simp only [List.getElem_set, revK, List.getElem_map, List.getElem_range]
  by_cases e1 : l.length - 1 - k = i
  · subst e1
    have : l.length - 1 - (l.length - 1 - k) = k := by omega
    rw [if_pos rfl, if_pos (by omega), this]
  · rw [if_neg e1]
    by_cases e2 : k = i
    · subst e2
      rw [if_pos rfl, if_pos (by omega)]
    · rw [if_neg e2]
      by_cases e3 : i < k ∨ l.length - k ≤ i
      · rw [if_pos e3, if_pos (by omega)]
      · rw [if_neg e3, if_neg (by omega)]
set_option maxHeartbeats 400000 in
theorem reverse_any (w : World) (base : Nat) (A : Option Addr) (n c : Nat) (l : List Int) (ha : OwI base w A n c l) (hn : n ≤ 1099511627776) :
    Calls Tryd.prog 119 #[.slice A n c] w fun e w' => e = .returned (.tuple #[]) ∧ OwI base w' A n c l.reverse ∧ w.grownBy w' (blkOf A) := by
  have Hl := Lib.hid ha.len
  go_enter Tryd.func119, Tryd.ntmps119
  go_wp2
  go_loopw [2, 3] (fun i j wr => ∃ k : Nat, 2 * k ≤ n + 1 ∧ i = .int .i64 k ∧ j = .int .i64 ((n : Int) - 1 - k) ∧ OwI base wr A n c (revK l k) ∧ w.grownBy wr (blkOf A)) (fun i _ _ => n - (intOf i).toNat)
  case atStart => exact ⟨0, by omega, rfl, by simp, by rw [revK_zero]; exact ha, World.grownBy.refl _ _⟩
  case round =>
    obtain ⟨k, hk, rfl, rfl, ho, hg⟩ := hrel
    by_cases hlt : 2 * k + 1 < n
    · obtain ⟨g, rfl, hb, hz⟩ := ho.form_ (by omega)
      have hc1 := ho.cell_ k (by omega)
      have hc2 := ho.cell_ (n - 1 - k) (by omega)
      rw [revK_get _ _ _ (by rw [Hl.out]; omega), if_neg (by rw [Hl.out]; omega)] at hc1 hc2
      have hf1 := ho.frozen_ k
      have hf2 := ho.frozen_ (n - 1 - k)
      go_wp2
      have s1 := ho.stored_ k (l[n - 1 - k]?.getD 0)
      have s2 := s1.1.stored_ (n - 1 - k) (l[k]?.getD 0)
      have hst := revK_step l k (by rw [Hl.out]; omega)
      rw [Hl.out] at hst
      rw [hst] at s2
      have S1 := Lib.hid s1.2
      have S2 := Lib.hid s2
      clear s1 s2 hst
      go_region
      go_wp2
      go_roundw
      case rel => exact ⟨k + 1, by omega, by go_num, by go_num, S2.out.1, gDrew ((hg.trans S1.out).trans S2.out.2)⟩
      case measure => simp [intOf]; omega
    · go_wp2
      go_end0
      refine ⟨rfl, ?_, hg⟩
      have := ho
      rw [revK_all _ _ (by rw [Hl.out]; omega)] at this
      exact this
def tiGroupsL (n m : Int) (k : Nat) : List Int := (List.range k).map fun (i : Nat) => n / m + if m - n % m ≤ (i : Int) then 1 else 0
theorem tiGroupsL_succ (n m : Int) (k : Nat) : tiGroupsL n m (k + 1) = tiGroupsL n m k ++ [n / m + if m - n % m ≤ k then 1 else 0] := by simp [tiGroupsL, List.range_succ]
theorem tiGroupsL_len (n m : Int) (k : Nat) : (tiGroupsL n m k).length = k := by simp [tiGroupsL]
def manyOf (n size : Int) : Int := (n + size - 1) / size
def groupsOf (n size : Int) : List Int := tiGroupsL n (manyOf n size) (manyOf n size).toNat
theorem many_bd (n size : Int) (hn : 1 ≤ n) (hs : 1 ≤ size) : 1 ≤ (n + size - 1) / size ∧ (n + size - 1) / size ≤ n := by
  constructor
  · exact (Int.le_ediv_iff_mul_le (by omega)).2 (by omega)
  · apply Int.ediv_le_of_le_mul (by omega)
    have := Int.mul_le_mul_of_nonneg_left hs (show (0 : Int) ≤ n - 1 by omega)
    rw [Int.mul_one, Int.sub_mul] at this
    omega
set_option maxHeartbeats 400000 in
theorem tiGroups_any (w : World) (n size : Int) (hn : 1 ≤ n) (hn2 : n ≤ 1000000) (hs : 1 ≤ size) (hs2 : size ≤ 1000000) :
    Calls Tryd.prog 107 #[.int .i64 n, .int .i64 size] w (RetI w (groupsOf n size)) := by
  obtain ⟨hM1, hM2⟩ := many_bd n size hn hs
  go_enter Tryd.func107, Tryd.ntmps107
  go_wp2
  generalize hM : (n + size - 1) / size = M at hM1 hM2 ⊢
  have HM := Lib.hid hM
  clear hM
  have hr1 := Int.emod_nonneg n (show M ≠ 0 by omega)
  have hr2 := Int.emod_lt_of_pos n (show 0 < M by omega)
  have hq1 := Int.ediv_nonneg (show 0 ≤ n by omega) (show 0 ≤ M by omega)
  have hq2 := Int.ediv_le_self M (show 0 ≤ n by omega)
  go_loopw [6, 7] (fun v i wr => ∃ (k : Nat) (A : Option Addr) (c : Nat) (x : World), k ≤ M ∧ i = .int .i64 k ∧ v = .slice A k c ∧ wr = ext w x ∧ OwI w.heap.size (ext w x) A k c (tiGroupsL n M k)) (fun _ i _ => (M - intOf i).toNat)
  case atStart => exact ⟨0, none, 0, _, by omega, rfl, rfl, ext_self w, OwI.nil_⟩
  case round =>
    obtain ⟨k, A, c, x, hk, rfl, rfl, rfl, ho⟩ := hrel
    have HL := Lib.hid (tiGroupsL_succ n M k)
    have hkb : k ≤ 1099511627776 := by omega
    by_cases hlt : (k : Int) < M
    · by_cases hge : M - n % M ≤ k
      all_goals
        go_wp2_with (at_builtin; (refine wpl_push_int w _ _ _ ?_ rfl _ _ rfl A k c _ rfl ho ?_ ?_ rfl hkb ?_); (focus (first | rfl | (simp; done))); (focus (repeat (first | exact Below.refl _ _ | assumption | refine bExt ?_ _ | refine bAlloc ?_ _ | refine bDrewN ?_ _ | refine bDrew ?_ | refine bSet ?_ (by first | exact Nat.le_refl _ | omega | (simp; done) | (simp; omega)) _))); (focus (repeat (first | exact Below.refl _ _ | assumption | refine bExt ?_ _ | refine bAlloc ?_ _ | refine bDrewN ?_ _ | refine bDrew ?_ | refine bSet ?_ (by first | exact Nat.le_refl _ | omega | (simp; done) | (simp; omega)) _))); intro A' c' y ho' hg hd)
        go_roundw
        case rel => exact ⟨k + 1, A', c', y, by omega, by go_num, rfl, rfl, by rw [HL.out]; simpa [hge] using ho'⟩
        case measure => simp [intOf]; omega
    · have hkM := Lib.hid (show (k : Int) = M by omega)
      go_wp2
      go_ret
      rw [groupsOf, manyOf, HM.out, show M.toNat = k by have := hkM.out; omega]
      exact RetI.mk_ ho (Nat.le_refl _) (ext_below _ _)
def evenL (n m : Int) (k : Nat) : List Int := (List.range k).map fun (i : Nat) => n / m + if (i : Int) < n % m then 1 else 0
theorem evenL_succ (n m : Int) (k : Nat) : evenL n m (k + 1) = evenL n m k ++ [n / m + if (k : Int) < n % m then 1 else 0] := by simp [evenL, List.range_succ]
theorem evenL_len (n m : Int) (k : Nat) : (evenL n m k).length = k := by simp [evenL]
set_option maxHeartbeats 400000 in
theorem evenSizes_any (w : World) (n M : Int) (hn : 1 ≤ n) (hn2 : n ≤ 1000000) (hM1 : 1 ≤ M) (hM2 : M ≤ 1000000) :
    Calls Tryd.prog 118 #[.int .i64 n, .int .i64 M] w (RetI w (evenL n M M.toNat)) := by
  have hr1 := Int.emod_nonneg n (show M ≠ 0 by omega)
  have hr2 := Int.emod_lt_of_pos n (show 0 < M by omega)
  have hq1 := Int.ediv_nonneg (show 0 ≤ n by omega) (show 0 ≤ M by omega)
  have hq2 := Int.ediv_le_self M (show 0 ≤ n by omega)
  go_enter Tryd.func118, Tryd.ntmps118
  go_wp2
  go_loopw [5, 10] (fun v i wr => ∃ (k : Nat) (A : Option Addr) (c : Nat) (x : World), k ≤ M ∧ i = .int .i64 k ∧ v = .slice A k c ∧ wr = ext w x ∧ OwI w.heap.size (ext w x) A k c (evenL n M k)) (fun _ i _ => (M - intOf i).toNat)
  case atStart =>
    obtain ⟨x, hx⟩ := ext_ex (bAlloc (Below.refl w.heap.size w) (.cells #[] 3))
    exact ⟨0, _, 0, x, by omega, rfl, rfl, hx, by rw [← hx]; exact OwI.lit_ (Below.refl _ w) [] (by simp [maxLen]) #[] rfl⟩
  case round =>
    obtain ⟨k, A, c, x, hk, rfl, rfl, rfl, ho⟩ := hrel
    have HL := Lib.hid (evenL_succ n M k)
    have hkb : k ≤ 1099511627776 := by omega
    by_cases hlt : (k : Int) < M
    · by_cases hge : (k : Int) < n % M
      all_goals
        go_wp2_with (at_builtin; (refine wpl_push_int w _ _ _ ?_ rfl _ _ rfl A k c _ rfl ho ?_ ?_ rfl hkb ?_); (focus (first | rfl | (simp; done))); (focus (repeat (first | exact Below.refl _ _ | assumption | refine bExt ?_ _ | refine bAlloc ?_ _ | refine bDrewN ?_ _ | refine bDrew ?_ | refine bSet ?_ (by first | exact Nat.le_refl _ | omega | (simp; done) | (simp; omega)) _))); (focus (repeat (first | exact Below.refl _ _ | assumption | refine bExt ?_ _ | refine bAlloc ?_ _ | refine bDrewN ?_ _ | refine bDrew ?_ | refine bSet ?_ (by first | exact Nat.le_refl _ | omega | (simp; done) | (simp; omega)) _))); intro A' c' y ho' hg hd)
        go_roundw
        case rel => exact ⟨k + 1, A', c', y, by omega, by go_num, rfl, rfl, by rw [HL.out]; simpa [hge] using ho'⟩
        case measure => simp [intOf]; omega
    · have hkM := Lib.hid (show M.toNat = k by omega)
      go_wp2
      go_ret
      rw [hkM.out]
      exact RetI.mk_ ho (Nat.le_refl _) (ext_below _ _)
theorem evenL_reverse (n M : Int) (hM : 1 ≤ M) (hn : 0 ≤ n) : (evenL n M M.toNat).reverse = tiGroupsL n M M.toNat := by
  apply List.ext_getElem (by simp [evenL, tiGroupsL])
  intro i h1 h2
  have h3 : i < M.toNat := by simpa [tiGroupsL] using h2
  rw [List.getElem_reverse]
  simp only [evenL, tiGroupsL, List.getElem_map, List.getElem_range, List.length_map, List.length_range]
  have hr1 := Int.emod_nonneg n (show M ≠ 0 by omega)
  by_cases e : M - n % M ≤ (i : Int)
  · rw [if_pos e, if_pos (by omega)]
  · rw [if_neg e, if_neg (by omega)]
theorem warmUpGroups_any (w : World) (n size : Int) (hn : 1 ≤ n) (hn2 : n ≤ 1000000) (hs : 1 ≤ size) (hs2 : size ≤ 1000000) :
    Calls Tryd.prog 106 #[.int .i64 n, .int .i64 size] w (RetI w (groupsOf n size)) := by
  obtain ⟨hM1, hM2⟩ := many_bd n size hn hs
  have HR := Lib.hid (evenL_reverse n ((n + size - 1) / size) hM1 (by omega))
  go_enter Tryd.func106, Tryd.ntmps106
  go_wp2_with fail
  refine (evenSizes_any _ n ((n + size - 1) / size) hn hn2 hM1 (by omega)).mono ?_
  rintro e w' ⟨A, k, c, x, rfl, rfl, ho⟩
  have hk : k ≤ 1099511627776 := by have := ho.len; rw [evenL_len] at this; omega
  go_wp2_with fail
  refine (reverse_any _ _ _ _ _ _ ho hk).mono ?_
  rintro e w2 ⟨rfl, ho2, hg⟩
  have hb2 : Below w.heap.size w w2 := below_grown (ext_below _ _) hg (fun g hg => (ho.blk hg).1)
  rw [HR.out] at ho2
  go_wp2_with fail
  go_ret
  exact RetI.mk_ ho2 (Nat.le_refl _) hb2
def groupsOk (n size : Int) : Bool := inB n 1 40 && inB size 1 8
def groupsV (n size : Int) : List Int := if groupsOk n size then groupsOf n size else []
theorem groupsOf_len (n size : Int) (hn : 1 ≤ n) (hs : 1 ≤ size) : ((groupsOf n size).length : Int) ≤ n := by
  have := many_bd n size hn hs
  simp only [groupsOf, tiGroupsL_len, manyOf]; omega
theorem groupsV_len (n size : Int) : (groupsV n size).length ≤ 40 := by
  unfold groupsV
  split
  · rename_i h
    simp only [groupsOk, Bool.and_eq_true] at h
    have h1 := inB_iff.1 h.1
    have h2 := inB_iff.1 h.2
    have := groupsOf_len n size h1.1 h2.1
    omega
  · simp
end Go.Proofs.YtpjaiihkgeabiaaDoor
