/- Slices of strings: how they read, and the contracts of the functions that copy, compare and mark them. Conditions: lengths below 2^40. -/
import Derived.Test.YtfmidngndddfiaaGreatDoorL1
import Derived.Test.YtfmidngndddfiaaGreatDoorLawKit
import Derived.Deep.RegionHeld3
set_option linter.unusedVariables false
set_option linter.unusedSimpArgs false
set_option maxRecDepth 100000
namespace Go.Proofs.YtfmidngndddfiaaGreatDoor
open Go.RowKit
theorem ret_str {a b : ByteArray} (h : a = b) : Ending.returned (.string a) = .returned (.string b) := by rw [h]
def RdT (w : World) (A : Option Addr) (n : Nat) (l : List ByteArray) : Prop := Rd 1 w A n (l.map Value.string)
def OwT (base : Nat) (w : World) (A : Option Addr) (n c : Nat) (l : List ByteArray) : Prop := Ow 9 1 base w A n c (l.map Value.string)
theorem string_info : (Tryz.prog.info? 9).map (fun i => (i.zero, i.size, i.bytes)) = some (some (.string ByteArray.empty), 1, 16) := by kernel_rfl
section
variable {base base' n c : Nat} {w w' : World} {A : Option Addr} {l : List ByteArray}
theorem RdT.below (h : RdT w A n l) (hb : Below w.heap.size w w') : RdT w' A n l := Rd.below h hb
theorem RdT.len (h : RdT w A n l) : l.length = n := by have := h.1; simpa using this
theorem RdT.open_ (h : RdT w A n l) (hn : 0 < n) : ∃ b off, A = some ⟨b, off, none⟩ ∧ b < w.heap.size ∧ ∀ j, j < n → w.cell? ⟨b, off + j, none⟩ = some (.string (l[j]?.getD ByteArray.empty)) := by
  have hl := h.len
  obtain ⟨b, off, e, hlt, hc⟩ := h.2 hn
  refine ⟨b, off, e, hlt, fun j hj => hc j _ ?_⟩
  have hj' : j < l.length := by omega
  simp [hj']
theorem OwT.len (h : OwT base w A n c l) : l.length = n := by have := Ow.len h; simpa using this
theorem OwT.below (h : OwT base w A n c l) (hb : Below w.heap.size w w') : OwT base w' A n c l := Ow.below h hb
theorem OwT.kept {row : Option Nat} (h : OwT base w A n c l) (hg : w.grownBy w' row) (hne : blkOf A = none ∨ blkOf A ≠ row) : OwT base w' A n c l := Ow.kept h hg hne
theorem OwT.mono (h : OwT base w A n c l) (hb : base' ≤ base) : OwT base' w A n c l := Ow.mono h hb
theorem OwT.nil_ : OwT base w none 0 0 [] := Ow.nil_
theorem OwT.rd (h : OwT base w A n c l) : RdT w A n l := Ow.rd h
theorem OwT.cap_ (h : OwT base w A n c l) : n ≤ c ∧ c ≤ maxLen := Ow.cap_ h
theorem OwT.blk (h : OwT base w A n c l) {g : Nat} (hA : blkOf A = some g) : base ≤ g ∧ g < w.heap.size := Ow.blk h hA
theorem OwT.form_ (h : OwT base w A n c l) (hn : 0 < n) : ∃ g, A = some ⟨g, 0, none⟩ ∧ base ≤ g ∧ g < w.heap.size := Ow.form_ h hn
theorem OwT.cell_ {g : Nat} (h : OwT base w (some ⟨g, 0, none⟩) n c l) (j : Nat) (hj : j < n) : w.cell? ⟨g, j, none⟩ = some (.string (l[j]?.getD ByteArray.empty)) := by
  have hl := h.len
  rw [Ow.cell_ h j (by omega)]
  simp [show j < l.length by omega]
theorem OwT.frozen_ {g : Nat} (h : OwT base w (some ⟨g, 0, none⟩) n c l) (j : Nat) : w.frozen? ⟨g, j, none⟩ = false := Ow.frozen_ h j
theorem OwT.stored_ {g : Nat} (h : OwT base w (some ⟨g, 0, none⟩) n c l) (j : Nat) (u : ByteArray) :
    OwT base (w.setCell ⟨g, j, none⟩ (.string u)) (some ⟨g, 0, none⟩) n c (l.set j u) ∧ w.grownBy (w.setCell ⟨g, j, none⟩ (.string u)) (some g) := by
  have := Ow.stored_ h j (.string u)
  refine ⟨?_, this.2⟩
  unfold OwT
  rw [List.map_set]
  exact this.1
theorem OwT.lit_ {R w : World} (hR : Below R.heap.size R w) (l : List ByteArray) (hl : l.length ≤ maxLen) (cs : Array Value) (hcs : cs.toList = l.map Value.string) :
    OwT R.heap.size (w.alloc (.cells cs 9)) (some ⟨w.heap.size, 0, none⟩) l.length l.length l := by
  have hs : cs.size = l.length * 1 := by rw [← Array.length_toList, hcs]; simp
  have := World.ownsRow_lit (base := R.heap.size) (e := 9) (size := 1) w cs l.length hR.size hl hs
  rw [hcs] at this
  exact this
theorem bdT (h : OwT base w A n c l) (hl : l.length ≤ 1048576) : n ≤ 1099511627776 := by have := h.len; omega
end
def RetT (w : World) (l : List ByteArray) (e : Ending) (w' : World) : Prop := ∃ A n c x, e = .returned (.slice A n c) ∧ w' = ext w x ∧ OwT w.heap.size (ext w x) A n c l
theorem RetT.mk_ {w W : World} {base : Nat} {A : Option Addr} {n c : Nat} {l : List ByteArray} (ho : OwT base W A n c l) (hbase : w.heap.size ≤ base) (hb : Below w.heap.size w W) : RetT w l (.returned (.slice A n c)) W := by
  obtain ⟨x, rfl⟩ := ext_ex hb
  exact ⟨A, n, c, x, rfl, rfl, ho.mono hbase⟩
/-- The string of one byte. -/
def oneB (n : Int) : ByteArray := ByteArray.empty.push (UInt8.ofNat n.toNat)
theorem strs_made (n : Nat) : (madeCells (Value.string ByteArray.empty).cells (n * 1)).toList = (List.replicate n ByteArray.empty).map Value.string := by
  rw [Nat.mul_one]
  show (madeCells #[Value.string ByteArray.empty] n).toList = _
  rw [toList_madeCells_one]; simp
set_option maxHeartbeats 400000 in
theorem toStringS_any (w : World) (A : Option Addr) (n c : Nat) (l : List ByteArray) (ha : RdT w A n l) (hn : n ≤ 1099511627776) :
    Calls Tryz.prog 87 #[.slice A n c] w (RetT w l) := by
  obtain ⟨i0, hi0, hz0, hz1, hz2⟩ := info_parts string_info
  have Hl := Lib.hid ha.len
  go_enter Tryz.func87, Tryz.ntmps87
  go_wp2_with (at_make; refine wpList_make_full w rfl _ _ _ rfl w.heap.size 9 i0 _ 1 Tryz.underlying77 hi0 hz0 hz1 .i64 .i64 _ _ n rfl rfl rfl rfl (by rw [hz2]; omega) (by simp only [maxLen]; omega) (Nat.le_refl _) ?_; intro w1 hown1 hg1)
  have hb1 : Below w.heap.size w w1 := below_grown (Below.refl _ _) hg1 (by simp)
  rw [strs_made] at hown1
  have o1 : OwT w.heap.size w1 (some ⟨w.heap.size, 0, none⟩) n n (fillL l 0 n ByteArray.empty) := by rw [fillL_zero]; exact hown1
  clear hown1 hg1
  obtain ⟨x1, rfl⟩ := ext_ex hb1
  go_loopw [4] (fun i wr => ∃ (k : Nat) (x : World), k ≤ n ∧ i = .int .i64 k ∧ wr = ext w x ∧ OwT w.heap.size (ext w x) (some ⟨w.heap.size, 0, none⟩) n n (fillL l k n ByteArray.empty)) (fun i _ => n - (intOf i).toNat)
  case atStart => exact ⟨0, x1, by omega, rfl, rfl, o1⟩
  case round =>
    obtain ⟨k, x, hk, rfl, rfl, ho⟩ := hrel
    by_cases hlt : k < n
    · obtain ⟨b, off, rfl, hb, hc⟩ := ha.open_ (by omega)
      have HF := Lib.hid (fillL_step l k n ByteArray.empty Hl.out hlt)
      have hcc := ho.cell_ k hlt
      have hff := ho.frozen_ k
      have hcs := hc k hlt
      have hst := ho.stored_ k (l[k]?.getD ByteArray.empty)
      rw [HF.out] at hst
      clear hc
      generalize l[k]?.getD ByteArray.empty = sk at *
      generalize (fillL l k n ByteArray.empty)[k]?.getD ByteArray.empty = ok at *
      have Hst := Lib.hid hst
      clear hst
      go_wp2
      have hbn : Below w.heap.size w ((ext w x).setCell ⟨w.heap.size, k, none⟩ (.string sk)) := by repeat (first | exact Below.refl _ _ | assumption | refine bExt ?_ _ | refine bAlloc ?_ _ | refine bDrewN ?_ _ | refine bDrew ?_ | refine bSet ?_ (by first | exact Nat.le_refl _ | omega | (simp; done) | (simp; omega)) _)
      obtain ⟨z, hz⟩ := ext_ex hbn
      go_roundw
      case rel => exact ⟨k + 1, z, by omega, by go_num, hz, by rw [← hz]; exact Hst.out.1⟩
      case measure => simp [intOf]; omega
    · have hkn := Lib.hid (show k = n by omega)
      go_wp2
      go_ret
      rw [hkn.out, fillL_end _ _ _ Hl.out] at ho
      exact RetT.mk_ ho (Nat.le_refl _) (ext_below _ _)
set_option maxHeartbeats 400000 in
theorem eqStringS_any (w : World) (A B : Option Addr) (n m c d : Nat) (l : List ByteArray) (ha : RdT w A n l) (hb : RdT w B m l) (hn : n ≤ 1099511627776) :
    Calls Tryz.prog 99 #[.slice A n c, .slice B m d] w fun e w' => e = .returned (.bool true) ∧ ∃ x, w' = ext w x := by
  obtain rfl : n = m := ha.len.symm.trans hb.len
  go_enter Tryz.func99, Tryz.ntmps99
  go_wp2
  go_loopw [5] (fun i wr => ∃ k x, k ≤ n ∧ i = .int .i64 (k : Nat) ∧ wr = ext w x) (fun i _ => n - (intOf i).toNat)
  case atStart => exact ⟨0, _, Nat.zero_le _, rfl, ext_self w⟩
  case round =>
    obtain ⟨k, x, hk, rfl, rfl⟩ := hrel
    by_cases hlt : k < n
    · obtain ⟨b1, o1, rfl, hb1, hc1⟩ := ha.open_ (by omega)
      obtain ⟨b2, o2, rfl, hb2, hc2⟩ := hb.open_ (by omega)
      have hq1 := hc1 k hlt
      have hq2 := hc2 k hlt
      clear hc1 hc2
      generalize l[k]?.getD ByteArray.empty = sk at *
      go_wp2
      go_quiet (fail)
      go_wp2
      go_roundw
      case rel => exact ⟨k + 1, _, by omega, by go_num, (ext_ex (by repeat (first | exact Below.refl _ _ | assumption | refine bExt ?_ _ | refine bAlloc ?_ _ | refine bDrewN ?_ _ | refine bDrew ?_ | refine bSet ?_ (by first | exact Nat.le_refl _ | omega | (simp; done) | (simp; omega)) _))).choose_spec⟩
      case measure => simp [intOf]; omega
    · go_wp2
      go_ret
      exact ⟨rfl, _, rfl⟩
def strSum (l : List ByteArray) : Int := (l.map fun s => (s.size : Int)).sum
theorem strSum_succ (l : List ByteArray) (k : Nat) (h : k < l.length) : strSum (l.take (k + 1)) = strSum (l.take k) + ((l[k]?.getD ByteArray.empty).size : Int) := by
  unfold strSum; rw [take_succ_getD ByteArray.empty l k h]; simp
theorem strSum_nonneg (l : List ByteArray) : 0 ≤ strSum l := by
  unfold strSum
  induction l with
  | nil => simp
  | cons a r ih => simp only [List.map_cons, List.sum_cons]; omega
theorem strSum_mono (l : List ByteArray) (k : Nat) : strSum (l.take k) ≤ strSum l := by
  have h : l.take k ++ l.drop k = l := List.take_append_drop k l
  have e : strSum l = strSum (l.take k) + strSum (l.drop k) := by
    unfold strSum
    rw [← List.sum_append, ← List.map_append, h]
  have := strSum_nonneg (l.drop k)
  omega
def szV (left T : Int) : Int := if left < T then -1 else left - T
def strTotal (l : List ByteArray) : Int := l.length + strSum l
set_option maxHeartbeats 400000 in
theorem szStringS_any (w : World) (A : Option Addr) (n c : Nat) (left : Int) (hl : 0 ≤ left) (hl2 : left ≤ 1099511627776) (hn : n ≤ 9223372036854775807) (l : List ByteArray) (ha : RdT w A n l) (hsz : ∀ s ∈ l, s.size ≤ 9223372036854775807) :
    Calls Tryz.prog 80 #[.slice A n c, .int .i64 left] w fun e w' => e = .returned (.int .i64 (szV left (strTotal l))) ∧ w = w' := by
  have Hl := Lib.hid ha.len
  have hT : Hid (strTotal l = n + strSum l) := by rw [strTotal, Hl.out]; rfl
  have hpos := strSum_nonneg l
  by_cases h : left < n
  · have e1 : szV left (strTotal l) = -1 := by rw [szV, if_pos (by rw [hT.out]; omega)]
    rw [e1]
    go_enter Tryz.func80, Tryz.ntmps80
    go_wp2
    go_ret
    exact ⟨rfl, rfl⟩
  · have hlt0 : ¬ left - n < 0 := by omega
    go_enter Tryz.func80, Tryz.ntmps80
    go_wp2
    go_loop [1, 5] (fun t i => ∃ k : Nat, k ≤ n ∧ i = .int .i64 k ∧ t = .int .i64 (left - n - strSum (l.take k)) ∧ strSum (l.take k) ≤ left - n) (fun _ i => n - (intOf i).toNat)
    case atStart => exact ⟨0, by omega, rfl, by simp [strSum], by simp [strSum]; omega⟩
    case round =>
      obtain ⟨k, hk, rfl, rfl, hle⟩ := hrel
      have hp := strSum_nonneg (l.take k)
      by_cases hlt : k < n
      · obtain ⟨b, off, rfl, hb, hc⟩ := ha.open_ (by omega)
        have hck := hc k hlt
        have hsk := hsz _ (getD_mem ByteArray.empty l k (by rw [Hl.out]; exact hlt))
        have HS := Lib.hid (strSum_succ l k (by rw [Hl.out]; exact hlt))
        have HM := Lib.hid (strSum_mono l (k + 1))
        clear hc
        generalize l[k]?.getD ByteArray.empty = sk at *
        generalize hsk0 : strSum (l.take k) = S at *
        clear hsk0
        by_cases hneg : left - n - S - sk.size < 0
        · have Hgt : Hid (left < strTotal l) := by
            have h1 := HS.out
            have h2 := HM.out
            show left < strTotal l
            rw [hT.out]; omega
          go_wp2
          go_ret
          exact ⟨ret_int (by rw [szV, if_pos Hgt.out]), rfl⟩
        · go_wp2
          go_round
          case rel => exact ⟨k + 1, by omega, by go_num, by rw [HS.out]; go_num, by rw [HS.out]; omega⟩
          case measure => simp [intOf]; omega
      · have Hk := Lib.hid (show l.take k = l from List.take_of_length_le (by rw [Hl.out]; omega))
        rw [Hk.out] at hle
        go_wp2
        go_ret
        exact ⟨ret_int (by rw [szV, if_neg (by rw [hT.out]; omega), hT.out, Hk.out]; omega), rfl⟩
end Go.Proofs.YtfmidngndddfiaaGreatDoor
