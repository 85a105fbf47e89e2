/- The law file's functions on elements: copies, sizes, comparing; what comes in, opened. Conditions: lengths below 2^40. -/
import Derived.Test.YtmeaklaagglmeaaGreatDoorXMarks3
import Derived.Test.YtmeaklaagglmeaaGreatDoorXCodeP
import Derived.Test.YtmeaklaagglmeaaGreatDoorXLiftStr
import Derived.StillTailTactics
set_option linter.unusedVariables false
set_option linter.unusedSimpArgs false
set_option maxRecDepth 100000
namespace Go.Proofs.YtmeaklaagglmeaaGreatDoor
open Go.ChangeShapes Go.WideShapes Go.ChangeAt Go.RowKit
def wtS {α : Type} (f : α → Int) (l : List α) : Int := (l.map f).sum
theorem wtS_succ {α : Type} (f : α → Int) (d : α) (l : List α) (k : Nat) (h : k < l.length) : wtS f (l.take (k + 1)) = wtS f (l.take k) + f (l[k]?.getD d) := by
 unfold wtS; rw [take_succ_getD d l k h]; simp
theorem wtS_nonneg {α : Type} {f : α → Int} (hf : ∀ x, 0 ≤ f x) (l : List α) : 0 ≤ wtS f l := by
 unfold wtS
 induction l with
 | nil => simp
 | cons a r ih => simp only [List.map_cons, List.sum_cons]; have := hf a; omega
theorem wtS_mono {α : Type} {f : α → Int} (hf : ∀ x, 0 ≤ f x) (l : List α) (k : Nat) : wtS f (l.take k) ≤ wtS f l := by
 have h : l.take k ++ l.drop k = l := List.take_append_drop k l
 have e : wtS f l = wtS f (l.take k) + wtS f (l.drop k) := by
  unfold wtS
  rw [← List.sum_append, ← List.map_append, h]
 have := wtS_nonneg hf (l.drop k)
 omega
theorem wtS_one {α : Type} {f : α → Int} (hf : ∀ x, 0 ≤ f x) (d : α) (l : List α) (k : Nat) (h : k < l.length) : f (l[k]?.getD d) ≤ wtS f l := by
 have h1 := wtS_succ f d l k h
 have h2 := wtS_mono hf l (k + 1)
 have h3 := wtS_nonneg hf (l.take k)
 omega
def elW (x : El) : Int := x.1.size
theorem elW_pos (x : El) : 0 ≤ elW x := by unfold elW; omega
def elTotal (l : List El) : Int := l.length + wtS elW l
theorem szElement_any (x : El) (left : Int) (w : World) (hl : 0 ≤ left) (hl2 : left ≤ 1099511627776) (hs : x.1.size ≤ 9223372036854775807) :
  Calls Tryz.prog 97 #[.agg #[.string x.1, .int .i64 x.2.1, .int .i64 x.2.2.1, .int .i64 x.2.2.2], .int .i64 left] w fun e w' => e = .returned (.int .i64 (szW left (elW x))) ∧ ∃ y, w' = ext w y := by
 obtain ⟨s, a, b, c⟩ := x
 simp only [elW] at *
 by_cases h : left < s.size
 ·
  have e1 : szW left s.size = -1 := by rw [szW, if_pos h]
  rw [e1]
  go_enter Tryz.func97, Tryz.ntmps97
  go_wp2
  go_ret
  exact ⟨rfl, ext_ex bl⟩
 ·
  have e1 : szW left s.size = left - s.size := by rw [szW, if_neg h]
  rw [e1]
  go_enter Tryz.func97, Tryz.ntmps97
  go_wp2
  go_ret
  exact ⟨rfl, ext_ex bl⟩
set_option maxHeartbeats 400000 in
theorem szElementS_any (w : World) (A : Option Addr) (n c : Nat) (left : Int) (hl : 0 ≤ left) (hl2 : left ≤ 1099511627776) (hn : n ≤ 9223372036854775807) (l : List El) (ha : RdEl w A n l) (hsz : ∀ x ∈ l, x.1.size ≤ 9223372036854775807) :
  Calls Tryz.prog 47 #[.slice A n c, .int .i64 left] w fun e w' => e = .returned (.int .i64 (szW left (elTotal l))) ∧ ∃ y, w' = ext w y := by
 have Hl := Lib.hid ha.len
 have hT : Hid (elTotal l = n + wtS elW l) := by rw [elTotal, Hl.out]; rfl
 have hpos := wtS_nonneg elW_pos l
 by_cases h : left < n
 ·
  have e1 : szW left (elTotal l) = -1 := by rw [szW, if_pos (by rw [hT.out]; omega)]
  rw [e1]
  go_enter Tryz.func47, Tryz.ntmps47
  go_wp2
  go_ret
  exact ⟨rfl, ext_ex bl⟩
 ·
  have hlt0 : ¬ left - n < 0 := by omega
  go_enter Tryz.func47, Tryz.ntmps47
  go_wp2
  go_loopw [1, 5] (fun t i wr => ∃ (k : Nat) (y : World), k ≤ n ∧ i = .int .i64 k ∧ t = .int .i64 (left - n - wtS elW (l.take k)) ∧ wtS elW (l.take k) ≤ left - n ∧ wr = ext w y) (fun _ i _ => n - (intOf i).toNat)
  case atStart => exact ⟨0, _, by omega, rfl, by simp [wtS], by simp [wtS]; omega, ext_self w⟩
  case round =>
   obtain ⟨k, y, hk, rfl, rfl, hle, rfl⟩ := hrel
   by_cases hlt : k < n
   ·
    obtain ⟨b, off, rfl, hb, hc0, hc1, hc2, hc3⟩ := ha.at_ k hlt
    have hsk := hsz _ (getD_mem zEl l k (by rw [Hl.out]; exact hlt))
    have HS := Lib.hid (wtS_succ elW zEl l k (by rw [Hl.out]; exact hlt))
    have HM := Lib.hid (wtS_mono elW_pos l (k + 1))
    have h0 := wtS_nonneg elW_pos (l.take k)
    have hp := elW_pos (l[k]?.getD zEl)
    generalize l[k]?.getD zEl = x at *
    generalize hsk0 : wtS elW (l.take k) = S at *
    clear hsk0
    have cz := fun W => szElement_any x (left - n - S) W (by omega) (by omega) hsk
    generalize elW x = m at *
    by_cases hneg : left - n - S < m
    ·
     have Hgt : Hid (left < elTotal l) := by
      have h1 := HS.out
      have h2 := HM.out
      show left < elTotal l
      rw [hT.out]; omega
     have hz : szW (left - n - S) m = -1 := by rw [szW, if_pos hneg]
     rw [hz] at cz
     go_wp2_with (first | (go_at_call 97; ((with_reducible refine (cz _).mono ?_); rintro e w' ⟨rfl, y2, rfl⟩)))
     go_ret
     exact ⟨ret_int (by rw [szW, if_pos Hgt.out]), ext_ex bl⟩
    ·
     have hz : szW (left - n - S) m = left - n - S - m := by rw [szW, if_neg hneg]
     have hnn : ¬ left - n - S - m < 0 := by omega
     rw [hz] at cz
     go_wp2_with (first | (go_at_call 97; ((with_reducible refine (cz _).mono ?_); rintro e w' ⟨rfl, y2, rfl⟩)))
     go_roundw
     case rel => exact ⟨k + 1, _, by omega, by go_num, congrArg (Value.int .i64) (by rw [HS.out]; omega), by rw [HS.out]; omega, (ext_ex bl).choose_spec⟩
     case measure => simp [intOf]; omega
   ·
    have Hk := Lib.hid (show l.take k = l from List.take_of_length_le (by rw [Hl.out]; omega))
    rw [Hk.out] at hle
    go_wp2
    go_ret
    exact ⟨ret_int (by rw [szW, if_neg (by rw [hT.out]; omega), hT.out, Hk.out]; omega), ext_ex bl⟩
theorem elCells_set (m : List El) (k : Nat) (x : El) (h : k < m.length) : ((((elCells m).set (k * 4) (.string x.1)).set (k * 4 + 1) (.int .i64 x.2.1)).set (k * 4 + 2) (.int .i64 x.2.2.1)).set (k * 4 + 3) (.int .i64 x.2.2.2) = elCells (m.set k x) := by
 induction m generalizing k with
 | nil => simp at h
 | cons p r ih =>
  rw [elCells_cons]
  cases k with
  | zero => simp [elCells_cons]
  | succ k =>
   rw [show (k + 1) * 4 = k * 4 + 1 + 1 + 1 + 1 by omega, show k * 4 + 1 + 1 + 1 + 1 + 1 = (k * 4 + 1) + 1 + 1 + 1 + 1 by omega, show k * 4 + 1 + 1 + 1 + 1 + 2 = (k * 4 + 2) + 1 + 1 + 1 + 1 by omega, show k * 4 + 1 + 1 + 1 + 1 + 3 = (k * 4 + 3) + 1 + 1 + 1 + 1 by omega]
   simp only [List.set_cons_succ]
   rw [ih k (by simpa using h), elCells_cons]
theorem els_made (n : Nat) : (madeCells (Value.agg #[.string ByteArray.empty, .int .i64 0, .int .i64 0, .int .i64 0]).cells (n * 4)).toList = elCells (List.replicate n zEl) := by
 apply List.ext_getElem?
 intro i
 by_cases h : i < n * 4
 ·
  have hk : i / 4 < (List.replicate n zEl).length := by simp; omega
  have g := elCells_get (List.replicate n zEl) (i / 4) hk
  have e0 : (List.replicate n zEl)[i / 4]?.getD zEl = zEl := by
   rw [List.getElem?_replicate]; split <;> rfl
  rw [e0] at g
  have h2 : i % 4 = 0 ∨ i % 4 = 1 ∨ i % 4 = 2 ∨ i % 4 = 3 := by omega
  rcases h2 with h2 | h2 | h2 | h2
  ·
   have e : i = i / 4 * 4 := by omega
   have : (elCells (List.replicate n zEl))[i]? = some (.string zEl.1) := by rw [e]; exact g.1
   rw [this]; simp [madeCells, h, Value.cells, h2, zEl]
  ·
   have e : i = i / 4 * 4 + 1 := by omega
   have : (elCells (List.replicate n zEl))[i]? = some (.int .i64 zEl.2.1) := by rw [e]; exact g.2.1
   rw [this]; simp [madeCells, h, Value.cells, h2, zEl]
  ·
   have e : i = i / 4 * 4 + 2 := by omega
   have : (elCells (List.replicate n zEl))[i]? = some (.int .i64 zEl.2.2.1) := by rw [e]; exact g.2.2.1
   rw [this]; simp [madeCells, h, Value.cells, h2, zEl]
  ·
   have e : i = i / 4 * 4 + 3 := by omega
   have : (elCells (List.replicate n zEl))[i]? = some (.int .i64 zEl.2.2.2) := by rw [e]; exact g.2.2.2
   rw [this]; simp [madeCells, h, Value.cells, h2, zEl]
 ·
  have : (elCells (List.replicate n zEl))[i]? = none := List.getElem?_eq_none (by rw [elCells_len]; simp; omega)
  rw [this]; simp [madeCells, h]
def OwEl (e base : Nat) (w : World) (A : Option Addr) (n c : Nat) (l : List El) : Prop := Ow e 4 base w A n c (elCells l)
section
variable {e base base' n c : Nat} {w w' : World} {A : Option Addr} {l : List El}
theorem OwEl.len (h : OwEl e base w A n c l) : l.length = n := by have := Ow.len h; rw [elCells_len] at this; omega
theorem OwEl.below (h : OwEl e base w A n c l) (hb : Below w.heap.size w w') : OwEl e base w' A n c l := Ow.below h hb
theorem OwEl.mono (h : OwEl e base w A n c l) (hb : base' ≤ base) : OwEl e base' w A n c l := Ow.mono h hb
theorem OwEl.rd (h : OwEl e base w A n c l) : RdEl w A n l := Ow.rd h
theorem OwEl.cap_ (h : OwEl e base w A n c l) : n ≤ c ∧ c ≤ maxLen := Ow.cap_ h
theorem OwEl.cell_ {g : Nat} (h : OwEl e base w (some ⟨g, 0, none⟩) n c l) (k : Nat) (hk : k < n) : w.cell? ⟨g, k * 4, none⟩ = some (.string (l[k]?.getD zEl).1) ∧ w.cell? ⟨g, k * 4 + 1, none⟩ = some (.int .i64 (l[k]?.getD zEl).2.1) ∧ w.cell? ⟨g, k * 4 + 2, none⟩ = some (.int .i64 (l[k]?.getD zEl).2.2.1) ∧ w.cell? ⟨g, k * 4 + 3, none⟩ = some (.int .i64 (l[k]?.getD zEl).2.2.2) := by
 have hl := h.len
 rw [Ow.cell_ h _ (by omega), Ow.cell_ h _ (by omega), Ow.cell_ h _ (by omega), Ow.cell_ h _ (by omega)]
 exact elCells_get l k (by omega)
theorem OwEl.frozen_ {g : Nat} (h : OwEl e base w (some ⟨g, 0, none⟩) n c l) (j : Nat) : w.frozen? ⟨g, j, none⟩ = false := Ow.frozen_ h j
def put4 (w : World) (g k : Nat) (x : El) : World := (((w.setCell ⟨g, k * 4, none⟩ (.string x.1)).setCell ⟨g, k * 4 + 1, none⟩ (.int .i64 x.2.1)).setCell ⟨g, k * 4 + 2, none⟩ (.int .i64 x.2.2.1)).setCell ⟨g, k * 4 + 3, none⟩ (.int .i64 x.2.2.2)
theorem OwEl.stored_ {g : Nat} (h : OwEl e base w (some ⟨g, 0, none⟩) n c l) (k : Nat) (hk : k < n) (x : El) :
  OwEl e base (put4 w g k x) (some ⟨g, 0, none⟩) n c (l.set k x) := by
 have h1 := Ow.stored_ h (k * 4) (.string x.1)
 have h2 := Ow.stored_ h1.1 (k * 4 + 1) (.int .i64 x.2.1)
 have h3 := Ow.stored_ h2.1 (k * 4 + 2) (.int .i64 x.2.2.1)
 have h4 := Ow.stored_ h3.1 (k * 4 + 3) (.int .i64 x.2.2.2)
 rw [elCells_set _ _ _ (by rw [h.len]; exact hk)] at h4
 exact h4.1
end
def RetEl (w : World) (l : List El) (E : Ending) (w' : World) : Prop := ∃ A n c x, E = .returned (.slice A n c) ∧ w' = ext w x ∧ OwEl 116 w.heap.size (ext w x) A n c l
theorem RetEl.mk_ {w W : World} {base : Nat} {A : Option Addr} {n c : Nat} {l : List El} (ho : OwEl 116 base W A n c l) (hbase : w.heap.size ≤ base) (hb : Below w.heap.size w W) : RetEl w l (.returned (.slice A n c)) W := by
 obtain ⟨x, rfl⟩ := ext_ex hb
 exact ⟨A, n, c, x, rfl, rfl, ho.mono hbase⟩
theorem toElement_any (x : El) (w : World) :
  Calls Tryz.prog 105 #[.agg #[.string x.1, .int .i64 x.2.1, .int .i64 x.2.2.1, .int .i64 x.2.2.2]] w fun e w' => e = .returned (.agg #[.string x.1, .int .i64 x.2.1, .int .i64 x.2.2.1, .int .i64 x.2.2.2]) ∧ ∃ y, w' = ext w y := by
 obtain ⟨s, a, b, c⟩ := x
 go_enter Tryz.func105, Tryz.ntmps105
 go_wp2
 exact bodyPost_ret (v := .agg #[.string s, .int .i64 a, .int .i64 b, .int .i64 c]) (by simp [results, Tryz.results105, go_sem]) rfl ⟨rfl, ext_ex bl⟩
theorem Element_info : (Tryz.prog.info? 116).map (fun i => (i.zero, i.size, i.bytes)) = some (some (.agg #[.string ByteArray.empty, .int .i64 0, .int .i64 0, .int .i64 0]), 4, 40) := by kernel_rfl
set_option maxHeartbeats 2000000 in
theorem toElementS_any (w : World) (A : Option Addr) (n c : Nat) (l : List El) (ha : RdEl w A n l) (hn : n ≤ 1099511627776) :
  Calls Tryz.prog 52 #[.slice A n c] w (RetEl w l) := by
 obtain ⟨i0, hi0, hz0, hz1, hz2⟩ := info_parts Element_info
 have Hl := Lib.hid ha.len
 go_enter Tryz.func52, Tryz.ntmps52
 go_wp2_with (at_make; refine wpList_make_full w rfl _ _ _ rfl w.heap.size 116 i0 _ 4 Tryz.underlying37 hi0 hz0 hz1 .i64 .i64 _ _ n rfl rfl rfl rfl (by rw [hz2]; omega) (by simp only [maxLen]; omega) (Nat.le_refl _) ?_; intro w1 hown1 hg1)
 have hb1 : Below w.heap.size w w1 := below_grown (Below.refl _ _) hg1 (by simp)
 rw [els_made] at hown1
 have o1 : OwEl 116 w.heap.size w1 (some ⟨w.heap.size, 0, none⟩) n n (fillL l 0 n zEl) := by rw [fillL_zero]; exact hown1
 clear hown1 hg1
 obtain ⟨x1, rfl⟩ := ext_ex hb1
 go_loopw [4] (fun i wr => ∃ (k : Nat) (x : World), k ≤ n ∧ i = .int .i64 k ∧ wr = ext w x ∧ OwEl 116 w.heap.size (ext w x) (some ⟨w.heap.size, 0, none⟩) n n (fillL l k n zEl)) (fun i _ => n - (intOf i).toNat)
 case atStart => exact ⟨0, x1, by omega, rfl, rfl, o1⟩
 case round =>
  obtain ⟨k, x, hk, rfl, rfl, ho⟩ := hrel
  by_cases hlt : k < n
  ·
   obtain ⟨b, off, rfl, hb, hc0, hc1, hc2, hc3⟩ := ha.at_ k hlt
   have HF := Lib.hid (fillL_step l k n zEl Hl.out hlt)
   generalize l[k]?.getD zEl = p at *
   obtain ⟨p0, p1, p2, p3⟩ := p
   simp only at hc0 hc1 hc2 hc3
   generalize (fillL l k n zEl) = cur at *
   go_wp2_with (go_at_call 105; ((with_reducible refine (toElement_any (p0, p1, p2, p3) _).mono ?_); rintro e w' ⟨rfl, y, rfl⟩; have ho2 := ho.below (ext_below _ y); have hcc := ho2.cell_ k hlt; obtain ⟨hcc0, hcc1, hcc2, hcc3⟩ := hcc; have hff0 := ho2.frozen_ (k * 4); have hff1 := ho2.frozen_ (k * 4 + 1); have hff2 := ho2.frozen_ (k * 4 + 2); have hff3 := ho2.frozen_ (k * 4 + 3)))
   have hst := ho2.stored_ k hlt (p0, p1, p2, p3)
   rw [HF.out] at hst
   unfold put4 at hst
   have hbn : Below w.heap.size w (((((ext (ext w x) y).setCell ⟨w.heap.size, k * 4, none⟩ (.string p0)).setCell ⟨w.heap.size, k * 4 + 1, none⟩ (.int .i64 p1)).setCell ⟨w.heap.size, k * 4 + 2, none⟩ (.int .i64 p2)).setCell ⟨w.heap.size, k * 4 + 3, none⟩ (.int .i64 p3)) := bSet (bSet (bSet (bSet (bExt (ext_below w x) y) (Nat.le_refl _) _) (Nat.le_refl _) _) (Nat.le_refl _) _) (Nat.le_refl _) _
   obtain ⟨z, hz⟩ := ext_ex hbn
   go_roundw
   case rel => exact ⟨k + 1, z, by omega, by go_num, hz, by rw [← hz]; exact hst⟩
   case measure => simp [intOf]; omega
  ·
   have hkn := Lib.hid (show k = n by omega)
   go_wp2
   go_ret
   rw [hkn.out, fillL_end _ _ _ Hl.out] at ho
   exact RetEl.mk_ ho (Nat.le_refl _) (ext_below _ _)
theorem eqElement_any (x : El) (w : World) :
  Calls Tryz.prog 118 #[.agg #[.string x.1, .int .i64 x.2.1, .int .i64 x.2.2.1, .int .i64 x.2.2.2], .agg #[.string x.1, .int .i64 x.2.1, .int .i64 x.2.2.1, .int .i64 x.2.2.2]] w fun e w' => e = .returned (.bool true) ∧ ∃ y, w' = ext w y := by
 obtain ⟨s, a, b, c⟩ := x
 go_enter Tryz.func118, Tryz.ntmps118
 go_wp2
 go_ret
 exact ⟨rfl, ext_ex bl⟩
set_option maxHeartbeats 400000 in
theorem eqElementS_any (w : World) (A B : Option Addr) (n m c d : Nat) (l : List El) (ha : RdEl w A n l) (hb : RdEl w B m l) (hn : n ≤ 1099511627776) :
  Calls Tryz.prog 59 #[.slice A n c, .slice B m d] w fun e w' => e = .returned (.bool true) ∧ ∃ x, w' = ext w x := by
 obtain rfl : n = m := ha.len.symm.trans hb.len
 go_enter Tryz.func59, Tryz.ntmps59
 go_wp2
 go_loopw [5] (fun i wr => ∃ k x, k ≤ n ∧ i = .int .i64 (k : Nat) ∧ wr = ext w x) (fun i _ => n - (intOf i).toNat)
 case atStart => exact ⟨0, _, Nat.zero_le _, rfl, ext_self w⟩
 case round =>
  obtain ⟨k, x, hk, rfl, rfl⟩ := hrel
  by_cases hlt : k < n
  ·
   obtain ⟨b1, o1, rfl, hb1, hc1, hd1, he1, hf1⟩ := ha.at_ k hlt
   obtain ⟨b2, o2, rfl, hb2, hc2, hd2, he2, hf2⟩ := hb.at_ k hlt
   go_wp2
   go_still_tail 8, (by kernel_rfl)
   change wpList _ _ _ _ _ (ext w x).drew
   go_wp2_with (go_at_call 118; ((with_reducible refine (eqElement_any (l[k]?.getD zEl) _).mono ?_); rintro e w' ⟨rfl, y, rfl⟩))
   go_roundw
   case rel => exact ⟨k + 1, _, by omega, by go_num, (ext_ex bl).choose_spec⟩
   case measure => simp [intOf]; omega
  ·
   go_wp2
   go_ret
   exact ⟨rfl, _, rfl⟩
end Go.Proofs.YtmeaklaagglmeaaGreatDoor
