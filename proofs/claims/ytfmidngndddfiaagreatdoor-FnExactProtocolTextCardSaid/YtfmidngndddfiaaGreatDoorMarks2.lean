/- The law file's functions on slices of slices of ints and on Marks. Conditions: lengths below 2^40. -/
import Derived.Test.YtfmidngndddfiaaGreatDoorMarks
set_option linter.unusedVariables false
set_option linter.unusedSimpArgs false
set_option maxRecDepth 100000
namespace Go.Proofs.YtfmidngndddfiaaGreatDoor
open Go.ChangeShapes Go.WideShapes Go.ChangeAt Go.RowKit
def szW (left T : Int) : Int := if left < T then -1 else left - T
theorem szIntS_any (w : World) (A : Option Addr) (n c : Nat) (left : Int) (hl : 0 ≤ left) (hl2 : left ≤ 1099511627776) (hn : n ≤ 9223372036854775807) :
    Calls Tryz.prog 19 #[.slice A n c, .int .i64 left] w fun e w' => e = .returned (.int .i64 (szW left n)) ∧ w = w' := by
  by_cases h : left < n
  · have e1 : szW left n = -1 := by rw [szW, if_pos h]
    rw [e1]
    go_enter Tryz.func19, Tryz.ntmps19
    go_wp2
    go_ret
    exact ⟨rfl, rfl⟩
  · have e1 : szW left n = left - n := by rw [szW, if_neg h]
    rw [e1]
    go_enter Tryz.func19, Tryz.ntmps19
    go_wp2
    go_ret
    exact ⟨rfl, rfl⟩
def lenSum (ll : List (List Int)) : Int := (ll.map fun l => (l.length : Int)).sum
theorem lenSum_succ (ll : List (List Int)) (k : Nat) (h : k < ll.length) : lenSum (ll.take (k + 1)) = lenSum (ll.take k) + ((ll[k]?.getD []).length : Int) := by
  unfold lenSum; rw [take_succ_getD [] ll k h]; simp
theorem lenSum_nonneg (ll : List (List Int)) : 0 ≤ lenSum ll := by
  unfold lenSum
  induction ll with
  | nil => simp
  | cons a r ih => simp only [List.map_cons, List.sum_cons]; omega
theorem lenSum_mono (ll : List (List Int)) (k : Nat) : lenSum (ll.take k) ≤ lenSum ll := by
  have h : ll.take k ++ ll.drop k = ll := List.take_append_drop k ll
  have e : lenSum ll = lenSum (ll.take k) + lenSum (ll.drop k) := by
    unfold lenSum
    rw [← List.sum_append, ← List.map_append, h]
  have := lenSum_nonneg (ll.drop k)
  omega
theorem lenSum_one (ll : List (List Int)) (k : Nat) (h : k < ll.length) : ((ll[k]?.getD []).length : Int) ≤ lenSum ll := by
  have h1 := lenSum_succ ll k h
  have h2 := lenSum_mono ll (k + 1)
  have h3 := lenSum_nonneg (ll.take k)
  omega
def mTotal (ll : List (List Int)) : Int := ll.length + lenSum ll
theorem mTotal_ge (ll : List (List Int)) : (ll.length : Int) ≤ mTotal ll ∧ 0 ≤ mTotal ll := by have := lenSum_nonneg ll; unfold mTotal; omega
theorem mTotal_row {ll : List (List Int)} {k : Nat} (h : k < ll.length) : ((ll[k]?.getD []).length : Int) ≤ mTotal ll := by have := lenSum_one ll k h; unfold mTotal; omega
set_option maxHeartbeats 400000 in
theorem szIntSS_any (w : World) (A : Option Addr) (n c : Nat) (left : Int) (hl : 0 ≤ left) (hl2 : left ≤ 1099511627776) (hn : n ≤ 9223372036854775807) (ll : List (List Int)) (ha : RdM w A n ll) :
    Calls Tryz.prog 48 #[.slice A n c, .int .i64 left] w fun e w' => e = .returned (.int .i64 (szW left (mTotal ll))) ∧ w = w' := by
  have Hl := Lib.hid ha.len
  have hT : Hid (mTotal ll = n + lenSum ll) := by rw [mTotal, Hl.out]; rfl
  have hpos := lenSum_nonneg ll
  by_cases h : left < n
  · have e1 : szW left (mTotal ll) = -1 := by rw [szW, if_pos (by rw [hT.out]; omega)]
    rw [e1]
    go_enter Tryz.func48, Tryz.ntmps48
    go_wp2
    go_ret
    exact ⟨rfl, rfl⟩
  · have hlt0 : ¬ left - n < 0 := by omega
    go_enter Tryz.func48, Tryz.ntmps48
    go_wp2
    go_loop [1, 5] (fun t i => ∃ k : Nat, k ≤ n ∧ i = .int .i64 k ∧ t = .int .i64 (left - n - lenSum (ll.take k)) ∧ lenSum (ll.take k) ≤ left - n) (fun _ i => n - (intOf i).toNat)
    case atStart => exact ⟨0, by omega, rfl, by simp [lenSum], by simp [lenSum]; omega⟩
    case round =>
      obtain ⟨k, hk, rfl, rfl, hle⟩ := hrel
      by_cases hlt : k < n
      · obtain ⟨b, off, rfl, hb, hc⟩ := ha.2 (by omega)
        obtain ⟨B, m, d, hck, hrow, hmd, hdm⟩ := hc k hlt
        have HS := Lib.hid (lenSum_succ ll k (by rw [Hl.out]; exact hlt))
        have HM := Lib.hid (lenSum_mono ll (k + 1))
        have h0 := lenSum_nonneg (ll.take k)
        rw [Hid, hrow.len] at HS
        replace HS := Lib.hid HS
        have hm9 : m ≤ 9223372036854775807 := by simp only [maxLen] at hdm; omega
        clear hc hrow
        generalize hsk0 : lenSum (ll.take k) = S at *
        clear hsk0
        by_cases hneg : left - n - S < m
        · have Hgt : Hid (left < mTotal ll) := by
            have h1 := HS.out
            have h2 := HM.out
            show left < mTotal ll
            rw [hT.out]; omega
          have hz : szW (left - n - S) m = -1 := by rw [szW, if_pos hneg]
          go_wp2_with (first | (go_at_call 19; ((with_reducible refine (szIntS_any _ _ _ _ _ (by omega) (by omega) hm9).mono ?_); rintro e w' ⟨rfl, rfl⟩)))
          go_ret
          exact ⟨ret_int (by rw [szW, if_pos Hgt.out]), rfl⟩
        · have hz : szW (left - n - S) m = left - n - S - m := by rw [szW, if_neg hneg]
          have hnn : ¬ left - n - S - m < 0 := by omega
          go_wp2_with (first | (go_at_call 19; ((with_reducible refine (szIntS_any _ _ _ _ _ (by omega) (by omega) hm9).mono ?_); rintro e w' ⟨rfl, rfl⟩)))
          go_round
          case rel => exact ⟨k + 1, by omega, by go_num, congrArg (Value.int .i64) (by rw [HS.out]; omega), by rw [HS.out]; omega⟩
          case measure => simp [intOf]; omega
      · have Hk := Lib.hid (show ll.take k = ll from List.take_of_length_le (by rw [Hl.out]; omega))
        rw [Hk.out] at hle
        go_wp2
        go_ret
        exact ⟨ret_int (by rw [szW, if_neg (by rw [hT.out]; omega), hT.out, Hk.out]; omega), rfl⟩
theorem rows_info : (Tryz.prog.info? 23).map (fun i => (i.zero, i.size, i.bytes)) = some (some (.slice none 0 0), 1, 24) := by kernel_rfl
theorem rows_made (n : Nat) : (madeCells (Value.slice none 0 0).cells (n * 1)).toList = (List.range n).map fun j => Value.slice ((fun _ => none) j) ((fun _ => 0) j) ((fun _ => 0) j) := by
  have e : (Value.slice none 0 0).cells = #[Value.slice none 0 0] := by simp [Value.cells]
  rw [e, Nat.mul_one, toList_madeCells_one]
  apply List.ext_getElem (by simp)
  intro i h1 h2
  simp
/-- What a function that hands back a slice of slices of ints returns. -/
def RetM (w : World) (ll : List (List Int)) (e : Ending) (w' : World) : Prop := ∃ A n c x, e = .returned (.slice A n c) ∧ w' = ext w x ∧ OwM w.heap.size (ext w x) A n c ll
set_option maxHeartbeats 400000 in
theorem toIntSS_any (w : World) (A : Option Addr) (n c : Nat) (ll : List (List Int)) (ha : RdM w A n ll) (hn : n ≤ 1099511627776) (hrows : ∀ j, j < n → (ll[j]?.getD []).length ≤ 1099511627776) :
    Calls Tryz.prog 58 #[.slice A n c] w (RetM w ll) := by
  obtain ⟨i0, hi0, hz0, hz1, hz2⟩ := info_parts rows_info
  have Hl := Lib.hid ha.len
  go_enter Tryz.func58, Tryz.ntmps58
  go_wp2_with (at_make; refine wpList_make_full w rfl _ _ _ rfl w.heap.size 23 i0 _ 1 Tryz.underlying27 hi0 hz0 hz1 .i64 .i64 _ _ n rfl rfl rfl rfl (by rw [hz2]; omega) (by simp only [maxLen]; omega) (Nat.le_refl _) ?_; intro w1 hown1 hg1)
  have hb1 : Below w.heap.size w w1 := below_grown (Below.refl _ _) hg1 (by simp)
  rw [rows_made] at hown1
  have o1 : OwM w.heap.size w1 (some ⟨w.heap.size, 0, none⟩) n n (fillL ll 0 n []) := by
    rw [fillL_zero]
    refine ⟨by simp, fun _ => none, fun _ => 0, fun _ => 0, hown1, fun j hj => ⟨?_, .inl rfl⟩, fun i j hi hj hij => .inl rfl⟩
    have : (List.replicate n ([] : List Int))[j]?.getD [] = [] := by simp [hj]
    rw [this]; exact OwI.nil_
  clear hown1 hg1
  obtain ⟨x1, rfl⟩ := ext_ex hb1
  go_loopw [4] (fun i wr => ∃ (k : Nat) (x : World), k ≤ n ∧ i = .int .i64 k ∧ wr = ext w x ∧ OwM w.heap.size (ext w x) (some ⟨w.heap.size, 0, none⟩) n n (fillL ll k n [])) (fun i _ => n - (intOf i).toNat)
  case atStart => exact ⟨0, x1, by omega, rfl, rfl, o1⟩
  case round =>
    obtain ⟨k, x, hk, rfl, rfl, ho⟩ := hrel
    by_cases hlt : k < n
    · obtain ⟨b, off, rfl, hb, hc⟩ := ha.2 (by omega)
      obtain ⟨B, m, d, hck, hrow, hmd, hdm⟩ := hc k hlt
      have HF := Lib.hid (fillL_step ll k n [] Hl.out hlt)
      have hmb : m ≤ 1099511627776 := by have := hrows k hlt; rw [hrow.len] at this; exact this
      have hbase : w.heap.size ≤ (ext w x).heap.size := ext_le w x
      have hcells := ho.cellAt k hlt
      clear hc
      generalize ll[k]?.getD [] = lk at *
      generalize fillL ll k n [] = cur at *
      go_wp2_with (first | (go_at_call 26; ((with_reducible refine (toIntS_any _ _ _ _ _ (hrow.below (ext_below _ _)) hmb).mono ?_); rintro e w' ⟨B', m', d', y, rfl, rfl, ob⟩; have hst := ho.put hlt ob hbase; have hcc := (ho.below (ext_below _ y)).cellAt k hlt; have hff := (ho.below (ext_below _ y)).frozenAt k; obtain ⟨u1, u2, u3, hcc⟩ := hcc)))
      rw [HF.out] at hst
      have hbn : Below w.heap.size w ((ext (ext w x) y).setCell ⟨w.heap.size, k, none⟩ (.slice B' m' d')) := by repeat (first | exact Below.refl _ _ | assumption | refine bExt ?_ _ | refine bAlloc ?_ _ | refine bDrewN ?_ _ | refine bDrew ?_ | refine bSet ?_ (by first | exact Nat.le_refl _ | omega | (simp; done) | (simp; omega)) _)
      obtain ⟨z, hz⟩ := ext_ex hbn
      go_roundw
      case rel => exact ⟨k + 1, z, by omega, by go_num, hz, by rw [← hz]; exact hst⟩
      case measure => simp [intOf]; omega
    · have hkn := Lib.hid (show k = n by omega)
      go_wp2
      go_ret
      rw [hkn.out, fillL_end _ _ _ Hl.out] at ho
      exact ⟨_, _, _, _, rfl, rfl, ho⟩
end Go.Proofs.YtfmidngndddfiaaGreatDoor
