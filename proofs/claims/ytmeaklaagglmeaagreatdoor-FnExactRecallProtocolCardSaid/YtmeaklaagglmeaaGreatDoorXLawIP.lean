/- The law file's functions on codes, slips and performances. Conditions: lengths below 2^40. -/
import Derived.Test.YtmeaklaagglmeaaGreatDoorXLawIt
import Derived.Test.YtmeaklaagglmeaaGreatDoorXMarks5
import Derived.Test.YtmeaklaagglmeaaGreatDoorXTrims
import Derived.Test.YtmeaklaagglmeaaGreatDoorXMarks4
import Derived.Deep.Strs
set_option linter.unusedVariables false
set_option linter.unusedSimpArgs false
set_option maxRecDepth 100000
namespace Go.Proofs.YtmeaklaagglmeaaGreatDoor
open Go.ChangeShapes Go.WideShapes Go.ChangeAt Go.RowKit
theorem OwEl.setLow {e base n c g k : Nat} {w : World} {A : Option Addr} {l : List El} {v : Value} (h : OwEl e base w A n c l) (hg : g < base) : OwEl e base (w.setCell ⟨g, k, none⟩ v) A n c l := by
 refine Ow.kept h (gSetM w g k v) ?_
 cases hA : blkOf A with
 | none => exact .inl rfl
 | some z => exact .inr fun e => by have := (Ow.blk h hA).1; injection e with e; omega
set_option maxHeartbeats 400000 in
theorem szCode_any (w : World) (A B : Option Addr) (n m c d : Nat) (els : List El) (q0 q1 q2 q3 : Int) (ha : RdEl w A n els) (hn : n ≤ 9223372036854775807) (hm : m ≤ 9223372036854775807) (hs : ∀ x ∈ els, x.1.size ≤ 9223372036854775807) (left : Int) (hl : 0 ≤ left) (hl2 : left ≤ 1099511627776) :
  Calls Tryz.prog 10 #[.agg #[.slice A n c, .slice B m d, .int .i64 q0, .int .i64 q1, .int .i64 q2, .int .i64 q3], .int .i64 left] w fun e w' => e = .returned (.int .i64 (szW left (elTotal els + (m : Int)))) ∧ ∃ y, w' = ext w y := by
 have hT : 0 ≤ elTotal els := by have := wtS_nonneg elW_pos els; unfold elTotal; omega
 by_cases h1 : left < elTotal els
 ·
  have e1 : szW left (elTotal els) = -1 := by rw [szW, if_pos h1]
  have e2 : szW left (elTotal els + (m : Int)) = -1 := by rw [szW, if_pos (by omega)]
  rw [e2]
  have c1 := fun W (h : Below w.heap.size w W) => szElementS_any W A n c left hl hl2 hn els (ha.below h) hs
  simp only [e1] at c1
  go_enter Tryz.func10, Tryz.ntmps10
  go_wp2_with (first | (go_at_call 47; ((with_reducible refine (c1 _ bl).mono ?_); rintro e w' ⟨rfl, y1, rfl⟩)))
  go_ret
  exact ⟨rfl, ext_ex bl⟩
 ·
  have e1 : szW left (elTotal els) = left - elTotal els := by rw [szW, if_neg h1]
  have c1 := fun W (h : Below w.heap.size w W) => szElementS_any W A n c left hl hl2 hn els (ha.below h) hs
  simp only [e1] at c1
  have hnn : ¬ left - elTotal els < 0 := by omega
  have c2 := fun W => szIntS_any W B m d (left - elTotal els) (by omega) (by omega) hm
  by_cases h2 : left - elTotal els < (m : Int)
  ·
   have e2 : szW (left - elTotal els) ((m : Int)) = -1 := by rw [szW, if_pos h2]
   have e3 : szW left (elTotal els + (m : Int)) = -1 := by rw [szW, if_pos (by omega)]
   simp only [e2] at c2
   rw [e3]
   generalize elTotal els = tg at *
   go_enter Tryz.func10, Tryz.ntmps10
   go_wp2_with (first | (go_at_call 47; ((with_reducible refine (c1 _ bl).mono ?_); rintro e w' ⟨rfl, y1, rfl⟩)) | (go_at_call 48; ((with_reducible refine (c2 _).mono ?_); rintro e w' ⟨rfl, rfl⟩)))
   go_ret
   exact ⟨rfl, ext_ex bl⟩
  ·
   have e2 : szW (left - elTotal els) ((m : Int)) = left - elTotal els - ((m : Int)) := by rw [szW, if_neg h2]
   have e3 : szW left (elTotal els + (m : Int)) = left - elTotal els - ((m : Int)) := by rw [szW, if_neg (by omega)]; omega
   simp only [e2] at c2
   rw [e3]
   have hn2 : ¬ left - elTotal els - ((m : Int)) < 0 := by omega
   generalize elTotal els = tg at *
   generalize (m : Int) = tk at *
   go_enter Tryz.func10, Tryz.ntmps10
   go_wp2_with (first | (go_at_call 47; ((with_reducible refine (c1 _ bl).mono ?_); rintro e w' ⟨rfl, y1, rfl⟩)) | (go_at_call 48; ((with_reducible refine (c2 _).mono ?_); rintro e w' ⟨rfl, rfl⟩)))
   go_ret
   exact ⟨rfl, ext_ex bl⟩
def RetCode (w : World) (els : List El) (lims : List Int) (q0 q1 q2 q3 : Int) (e : Ending) (w' : World) : Prop := ∃ A n c B m d x, e = .returned (.agg #[.slice A n c, .slice B m d, .int .i64 q0, .int .i64 q1, .int .i64 q2, .int .i64 q3]) ∧ w' = ext w x ∧ CodeR (ext w x) A n B m els lims
def RetCodeO (w : World) (els : List El) (lims : List Int) (q0 q1 q2 q3 : Int) (e : Ending) (w' : World) : Prop := ∃ A n c B m d x, e = .returned (.agg #[.slice A n c, .slice B m d, .int .i64 q0, .int .i64 q1, .int .i64 q2, .int .i64 q3]) ∧ w' = ext w x ∧ CodeR (ext w x) A n B m els lims ∧ OwEl 116 w.heap.size (ext w x) A n c els ∧ OwI w.heap.size (ext w x) B m d lims ∧ (blkOf B = none ∨ blkOf B ≠ blkOf A)
set_option maxHeartbeats 4000000 in
theorem toCodeO_any (w : World) (A B : Option Addr) (n m c d : Nat) (els : List El) (lims : List Int) (q0 q1 q2 q3 : Int) (hc : CodeR w A n B m els lims) :
  Calls Tryz.prog 12 #[.agg #[.slice A n c, .slice B m d, .int .i64 q0, .int .i64 q1, .int .i64 q2, .int .i64 q3]] w (RetCodeO w els lims q0 q1 q2 q3) := by
 obtain ⟨ha, hb, hn, hm, hs⟩ := hc
 have c1 := fun W (h : Below w.heap.size w W) => toElementS_any W A n c els (ha.below h) hn
 have c2 := fun W (h : Below w.heap.size w W) => toIntS_any W B m d lims (hb.below h) hm
 have hal := ha.len
 have hbl := hb.len
 clear ha hb
 go_enter Tryz.func12, Tryz.ntmps12
 go_wp2_with (first | (go_at_call 52; ((with_reducible refine (c1 _ bl).mono ?_); rintro e w' ⟨A1, n1, k1, x1, rfl, rfl, o1⟩)) | (go_at_call 53; ((with_reducible refine (c2 _ bl).mono ?_); rintro e w' ⟨A2, n2, k2, x2, rfl, rfl, o2⟩)))
 refine bodyPost_ret (v := .agg #[.slice A1 n1 k1, .slice A2 n2 k2, .int .i64 q0, .int .i64 q1, .int .i64 q2, .int .i64 q3]) (by simp [results, Tryz.results12, go_sem]) rfl ?_
 have sb : (((w.alloc (.cells #[.slice A n c, .slice B m d, .int .i64 q0, .int .i64 q1, .int .i64 q2, .int .i64 q3] 25)).alloc (.cells #[.slice none 0 0, .slice none 0 0, .int .i64 0, .int .i64 0, .int .i64 0, .int .i64 0] 39)).alloc (.cells #[.slice none 0 0, .slice none 0 0, .int .i64 0, .int .i64 0, .int .i64 0, .int .i64 0] 39)).heap.size = w.heap.size + 3 := by simp [go_sem]
 have hwb : Below w.heap.size w (((w.alloc (.cells #[.slice A n c, .slice B m d, .int .i64 q0, .int .i64 q1, .int .i64 q2, .int .i64 q3] 25)).alloc (.cells #[.slice none 0 0, .slice none 0 0, .int .i64 0, .int .i64 0, .int .i64 0, .int .i64 0] 39)).alloc (.cells #[.slice none 0 0, .slice none 0 0, .int .i64 0, .int .i64 0, .int .i64 0, .int .i64 0] 39)) := by repeat first | exact .refl _ _ | assumption | refine bExt ?_ _ | refine bAlloc ?_ _ | refine bDrewN ?_ _ | refine bDrew ?_ | refine bSet ?_ (by first | exact Nat.le_refl _ | omega | (simp <;> omega)) _
 generalize (((w.alloc (.cells #[.slice A n c, .slice B m d, .int .i64 q0, .int .i64 q1, .int .i64 q2, .int .i64 q3] 25)).alloc (.cells #[.slice none 0 0, .slice none 0 0, .int .i64 0, .int .i64 0, .int .i64 0, .int .i64 0] 39)).alloc (.cells #[.slice none 0 0, .slice none 0 0, .int .i64 0, .int .i64 0, .int .i64 0, .int .i64 0] 39)) = Wb at *
 have hsz : Wb.heap.size ≤ (ext Wb x1).heap.size := ext_le Wb x1
 have sz1 : ∀ (W : World) (a : Addr) (v : Value), (W.setCell a v).heap.size = W.heap.size := fun W a v => by simp [World.setCell]
 rw [sz1] at o2
 have hne : blkOf A2 = none ∨ blkOf A2 ≠ blkOf A1 := by
  cases hz : blkOf A2 with
  | none => exact .inl rfl
  | some z => exact .inr fun e => by have := (Ow.blk o2 hz).1; have := (Ow.blk o1 e.symm).2; omega
 have r1 := (((((((((((((o1).setLow (g := w.heap.size + 1 + 1) (k := 0) (v := .slice A1 n1 k1) (by omega)).below (ext_below _ x2)).setLow (g := w.heap.size + 1 + 1) (k := 1) (v := .slice A2 n2 k2) (by omega)).setLow (g := w.heap.size + 1 + 1) (k := 2) (v := .int .i64 q0) (by omega)).setLow (g := w.heap.size + 1 + 1) (k := 3) (v := .int .i64 q1) (by omega)).setLow (g := w.heap.size + 1 + 1) (k := 4) (v := .int .i64 q2) (by omega)).setLow (g := w.heap.size + 1 + 1) (k := 5) (v := .int .i64 q3) (by omega)).setLow (g := w.heap.size + 1) (k := 0) (v := .slice A1 n1 k1) (by omega)).setLow (g := w.heap.size + 1) (k := 1) (v := .slice A2 n2 k2) (by omega)).setLow (g := w.heap.size + 1) (k := 2) (v := .int .i64 q0) (by omega)).setLow (g := w.heap.size + 1) (k := 3) (v := .int .i64 q1) (by omega)).setLow (g := w.heap.size + 1) (k := 4) (v := .int .i64 q2) (by omega)).setLow (g := w.heap.size + 1) (k := 5) (v := .int .i64 q3) (by omega)
 have r2 := (((((((((((o2).setLow (g := w.heap.size + 1 + 1) (k := 1) (v := .slice A2 n2 k2) (by omega)).setLow (g := w.heap.size + 1 + 1) (k := 2) (v := .int .i64 q0) (by omega)).setLow (g := w.heap.size + 1 + 1) (k := 3) (v := .int .i64 q1) (by omega)).setLow (g := w.heap.size + 1 + 1) (k := 4) (v := .int .i64 q2) (by omega)).setLow (g := w.heap.size + 1 + 1) (k := 5) (v := .int .i64 q3) (by omega)).setLow (g := w.heap.size + 1) (k := 0) (v := .slice A1 n1 k1) (by omega)).setLow (g := w.heap.size + 1) (k := 1) (v := .slice A2 n2 k2) (by omega)).setLow (g := w.heap.size + 1) (k := 2) (v := .int .i64 q0) (by omega)).setLow (g := w.heap.size + 1) (k := 3) (v := .int .i64 q1) (by omega)).setLow (g := w.heap.size + 1) (k := 4) (v := .int .i64 q2) (by omega)).setLow (g := w.heap.size + 1) (k := 5) (v := .int .i64 q3) (by omega)
 have hbf : Below w.heap.size w ((((((((((((ext ((ext Wb x1).setCell ⟨w.heap.size + 1 + 1, 0, none⟩ (.slice A1 n1 k1)) x2).setCell ⟨w.heap.size + 1 + 1, 1, none⟩ (.slice A2 n2 k2)).setCell ⟨w.heap.size + 1 + 1, 2, none⟩ (.int .i64 q0)).setCell ⟨w.heap.size + 1 + 1, 3, none⟩ (.int .i64 q1)).setCell ⟨w.heap.size + 1 + 1, 4, none⟩ (.int .i64 q2)).setCell ⟨w.heap.size + 1 + 1, 5, none⟩ (.int .i64 q3)).setCell ⟨w.heap.size + 1, 0, none⟩ (.slice A1 n1 k1)).setCell ⟨w.heap.size + 1, 1, none⟩ (.slice A2 n2 k2)).setCell ⟨w.heap.size + 1, 2, none⟩ (.int .i64 q0)).setCell ⟨w.heap.size + 1, 3, none⟩ (.int .i64 q1)).setCell ⟨w.heap.size + 1, 4, none⟩ (.int .i64 q2)).setCell ⟨w.heap.size + 1, 5, none⟩ (.int .i64 q3)) := bSet (bSet (bSet (bSet (bSet (bSet (bSet (bSet (bSet (bSet (bSet (bExt (bSet (bExt (hwb) x1) (by show w.heap.size ≤ w.heap.size + 1 + 1; omega) _) x2) (by show w.heap.size ≤ w.heap.size + 1 + 1; omega) _) (by show w.heap.size ≤ w.heap.size + 1 + 1; omega) _) (by show w.heap.size ≤ w.heap.size + 1 + 1; omega) _) (by show w.heap.size ≤ w.heap.size + 1 + 1; omega) _) (by show w.heap.size ≤ w.heap.size + 1 + 1; omega) _) (by show w.heap.size ≤ w.heap.size + 1; omega) _) (by show w.heap.size ≤ w.heap.size + 1; omega) _) (by show w.heap.size ≤ w.heap.size + 1; omega) _) (by show w.heap.size ≤ w.heap.size + 1; omega) _) (by show w.heap.size ≤ w.heap.size + 1; omega) _) (by show w.heap.size ≤ w.heap.size + 1; omega) _
 obtain ⟨z, hz⟩ := ext_ex hbf
 rw [hz] at r1 r2
 exact ⟨A1, n1, k1, A2, n2, k2, z, rfl, hz, ⟨r1.rd, r2.rd, by have := r1.len; omega, by have := r2.len; omega, hs⟩, r1.mono (by omega), r2.mono (by omega), hne⟩
theorem toCode_any (w : World) (A B : Option Addr) (n m c d : Nat) (els : List El) (lims : List Int) (q0 q1 q2 q3 : Int) (hc : CodeR w A n B m els lims) :
  Calls Tryz.prog 12 #[.agg #[.slice A n c, .slice B m d, .int .i64 q0, .int .i64 q1, .int .i64 q2, .int .i64 q3]] w (RetCode w els lims q0 q1 q2 q3) :=
 (toCodeO_any w A B n m c d els lims q0 q1 q2 q3 hc).mono fun e w' ⟨A1, n1, c1, B1, m1, d1, x, h1, h2, h3, _⟩ => ⟨A1, n1, c1, B1, m1, d1, x, h1, h2, h3⟩
set_option maxHeartbeats 1000000 in
theorem eqCode_any (w : World) (A B A' B' : Option Addr) (n m c d n' m' c' d' : Nat) (els : List El) (lims : List Int) (q0 q1 q2 q3 : Int) (hc : CodeR w A n B m els lims) (hc' : CodeR w A' n' B' m' els lims) :
  Calls Tryz.prog 15 #[.agg #[.slice A n c, .slice B m d, .int .i64 q0, .int .i64 q1, .int .i64 q2, .int .i64 q3], .agg #[.slice A' n' c', .slice B' m' d', .int .i64 q0, .int .i64 q1, .int .i64 q2, .int .i64 q3]] w fun e w' => e = .returned (.bool true) ∧ ∃ y, w' = ext w y := by
 have c1 := fun W (h : Below w.heap.size w W) => eqElementS_any W A A' n n' c c' els (hc.1.below h) (hc'.1.below h) hc.2.2.1
 have c2 := fun W (h : Below w.heap.size w W) => eqIntS_any W B B' m m' d d' lims lims (hc.2.1.below h) (hc'.2.1.below h) hc.2.2.2.1
 have hbe : (lims == lims) = true := by simp
 simp only [hbe] at c2
 clear hc hc'
 go_enter Tryz.func15, Tryz.ntmps15
 go_wp2_with (first | (go_at_call 59; ((with_reducible refine (c1 _ bl).mono ?_); rintro e w' ⟨rfl, y1, rfl⟩)) | (go_at_call 60; ((with_reducible refine (c2 _ bl).mono ?_); rintro e w' ⟨rfl, y2, rfl⟩)))
 go_ret
 exact ⟨rfl, ext_ex bl⟩
theorem eqSlips_any (a b c : Int) (w : World) :
  Calls Tryz.prog 58 #[.agg #[.int .i64 a, .int .i64 b, .int .i64 c], .agg #[.int .i64 a, .int .i64 b, .int .i64 c]] w fun e w' => e = .returned (.bool true) ∧ ∃ x, w' = ext w x := by
 go_enter Tryz.func58, Tryz.ntmps58
 go_wp2
 go_ret
 exact ⟨rfl, ext_ex bl⟩
set_option maxHeartbeats 1000000 in
theorem eqPerformance_any (w : World) (I GA KA I' GA' KA' : Option Addr) (n2 c2 gn gc kn kc n2' c2' gn' gc' kn' kc' : Nat) (its : List It) (gg kk : List (List Int)) (s1 s2 s3 : Int) (hi : ItsR w I n2 c2 its) (hm : RdMk w GA gn KA kn gg kk) (hi' : ItsR w I' n2' c2' its) (hm' : RdMk w GA' gn' KA' kn' gg kk) :
  Calls Tryz.prog 14 #[.agg #[.slice I n2 c2, .slice GA gn gc, .slice KA kn kc, .int .i64 s1, .int .i64 s2, .int .i64 s3], .agg #[.slice I' n2' c2', .slice GA' gn' gc', .slice KA' kn' kc', .int .i64 s1, .int .i64 s2, .int .i64 s3]] w fun e w' => e = .returned (.bool true) ∧ ∃ y, w' = ext w y := by
 have c1 := fun W (h : Below w.heap.size w W) => eqItemS_any W I I' n2 n2' c2 c2' its (hi.1.below h) (hi'.1.below h) hi.2.1 hi.2.2.2
 have c2 := fun W (h : Below w.heap.size w W) => eqMk_any W GA KA GA' KA' gn kn gc kc gn' kn' gc' kc' gg kk (hm.below h) (hm'.below h)
 clear hi hm hi' hm'
 go_enter Tryz.func14, Tryz.ntmps14
 go_wp2_with (first | (go_at_call 56; ((with_reducible refine (c1 _ bl).mono ?_); rintro e w' ⟨rfl, y1, rfl⟩)) | (go_at_call 57; ((with_reducible refine (c2 _ bl).mono ?_); rintro e w' ⟨rfl, y2, rfl⟩)) | (go_at_call 58; ((with_reducible refine (eqSlips_any _ _ _ _).mono ?_); rintro e w' ⟨rfl, y3, rfl⟩)))
 go_ret
 exact ⟨rfl, ext_ex bl⟩
end Go.Proofs.YtmeaklaagglmeaaGreatDoor
namespace Go.Proofs.YtmeaklaagglmeaaGreatDoor
open Go.ChangeShapes Go.WideShapes Go.ChangeAt Go.RowKit Go.Deep
section
variable {H : Type} {enc : TypeId × Value → H} {W : World}
theorem add_none (b off j : Nat) : (⟨b, off, none⟩ : Addr).add j = ⟨b, off + j, none⟩ := by unfold Addr.add; split <;> simp_all
set_option maxRecDepth 100000 in
theorem open_RdI1 {fuel : Nat} {v : Value} {y : DataW H × List MemPlace} (hf : DataW.trod enc Tryz.prog W 0 (fun _ => true) true fuel 23 [v] = some y) :
  ∃ A n c l, v = .slice A n c ∧ RdI W A n l ∧ n ≤ c ∧ c ≤ maxLen := by
 rcases open_ints Tryz.underlying23 Tryz.underlying3 (by kernel_rfl) hf with ⟨hcs, _⟩ | ⟨x, l, c, zs, hcs, _, hl, hm, hz, _, hcell, _⟩
 ·
  injection hcs with hcs
  subst hcs
  exact ⟨none, 0, 0, [], rfl, RdI.nil_, Nat.le_refl _, by simp [maxLen]⟩
 ·
  injection hcs with hcs
  subst hcs
  have hzl : zs.length = c := by simpa using hz
  refine ⟨some x, l, c, zs.take l, rfl, ⟨by simp; omega, fun hn => ?_⟩, hl, hm⟩
  obtain ⟨b, off, spot⟩ := x
  have hc := hcell 0 (by omega)
  have hspot : spot = none := by simpa [Addr.add] using World.cell?_spot hc
  subst hspot
  have hb : b < W.heap.size := World.block_lt_of_cell? W _ (by simpa [Addr.add] using hc)
  refine ⟨b, off, rfl, hb, fun j u hu => ?_⟩
  simp only [List.getElem?_map, Option.map_eq_some_iff] at hu
  obtain ⟨y, hy, rfl⟩ := hu
  have hj : j < zs.length := by
   have := (List.getElem?_eq_some_iff.1 hy).1
   simp at this; omega
  have h2 := hcell j hj
  rw [add_none] at h2
  rw [h2]
  have : zs.getD j 0 = y := by
   rw [List.getElem?_take] at hy
   split at hy
   ·
    simp [List.getD, hy]
   ·
    cases hy
  rw [this]
theorem pick_fun {α : Type} (d : α) {n : Nat} {Q : Nat → α → Prop} (h : ∀ k, k < n → ∃ x, Q k x) : ∃ f : Nat → α, ∀ k, k < n → Q k (f k) := by
 have h' : ∀ k, ∃ x, k < n → Q k x := fun k => by
  by_cases hk : k < n
  ·
   obtain ⟨x, hx⟩ := h k hk; exact ⟨x, fun _ => hx⟩
  ·
   exact ⟨d, fun hh => absurd hh hk⟩
 exact Classical.axiomOfChoice h'
set_option maxRecDepth 100000 in
set_option maxHeartbeats 1000000 in
theorem open_RdEl {fuel : Nat} {v : Value} {y : DataW H × List MemPlace} (hf : DataW.trod enc Tryz.prog W 0 (fun _ => true) true fuel 22 [v] = some y) :
  ∃ A n c l, v = .slice A n c ∧ RdEl W A n l ∧ n ≤ c ∧ c ≤ maxLen ∧ ∀ x ∈ l, x.1.size ≤ 9223372036854775807 := by
 rcases open_slice_fields Tryz.underlying22 Tryz.underlying115 (by kernel_rfl) (by kernel_rfl) hf with ⟨hcs, _⟩ | ⟨a, l, c, m, D, Pl, hcs, _, hl, hm, hmm, _, hD⟩
 ·
  injection hcs with hcs
  subst hcs
  exact ⟨none, 0, 0, [], rfl, ⟨by simp [elCells], fun h => absurd h (by omega)⟩, Nat.le_refl _, by simp [maxLen], by simp⟩
 ·
  injection hcs with hcs
  subst hcs
  simp at hmm
  subst hmm
  simp only [List.size_toArray, List.length_cons, List.length_nil, Nat.zero_add] at hD
  have hx : ∀ k, k < m → ∃ x : El, (W.cell? (a.add (k * 4 + 0)) = some (.string x.1) ∧ W.cell? (a.add (k * 4 + 1)) = some (.int .i64 x.2.1) ∧ W.cell? (a.add (k * 4 + 2)) = some (.int .i64 x.2.2.1) ∧ W.cell? (a.add (k * 4 + 3)) = some (.int .i64 x.2.2.2)) ∧ x.1.size ≤ 9223372036854775807 := by
   intro k hk
   obtain ⟨ys, n', _, _, _, hff⟩ := hD k hk
   obtain ⟨u0, y0, hu0, _, ht0⟩ := hff 0 _ rfl
   obtain ⟨u1, y1, hu1, _, ht1⟩ := hff 1 _ rfl
   obtain ⟨u2, y2, hu2, _, ht2⟩ := hff 2 _ rfl
   obtain ⟨u3, y3, hu3, _, ht3⟩ := hff 3 _ rfl
   obtain ⟨s, e0, _, w0⟩ := DataW.trod_string Tryz.underlying9 ht0
   obtain ⟨x1, e1, _, _⟩ := DataW.trod_int Tryz.underlying3 ht1
   obtain ⟨x2, e2, _, _⟩ := DataW.trod_int Tryz.underlying3 ht2
   obtain ⟨x3, e3, _, _⟩ := DataW.trod_int Tryz.underlying3 ht3
   injection e0 with e0; injection e1 with e1; injection e2 with e2; injection e3 with e3
   subst e0 e1 e2 e3
   exact ⟨(s, x1, x2, x3), ⟨hu0, hu1, hu2, hu3⟩, by simp only [maxLen] at w0; omega⟩
  obtain ⟨f, hfn⟩ := pick_fun zEl hx
  have hlen : ((List.range l).map f).length = l := by simp
  have hget : ∀ k, k < l → ((List.range l).map f)[k]?.getD zEl = f k := fun k hk => by simp [hk]
  refine ⟨some a, l, m, (List.range l).map f, rfl, ⟨by rw [elCells_len, hlen], fun hn => ?_⟩, hl, hm, fun x hx => ?_⟩
  ·
   obtain ⟨b, off, spot⟩ := a
   have hc := (hfn 0 (by omega)).1.1
   have hspot : spot = none := by simpa [Addr.add] using World.cell?_spot hc
   subst hspot
   have hb : b < W.heap.size := World.block_lt_of_cell? W _ (by simpa [Addr.add] using hc)
   refine ⟨b, off, rfl, hb, fun j u hu => ?_⟩
   have hj : j < l * 4 := by
    have := (List.getElem?_eq_some_iff.1 hu).1
    rw [elCells_len, hlen] at this; exact this
   have hk : j / 4 < l := by omega
   obtain ⟨g0, g1, g2, g3⟩ := elCells_get ((List.range l).map f) (j / 4) (by rw [hlen]; exact hk)
   rw [hget _ hk] at g0 g1 g2 g3
   obtain ⟨c0, c1, c2, c3⟩ := (hfn (j / 4) (by omega)).1
   rw [add_none] at c0 c1 c2 c3
   rcases (show j % 4 = 0 ∨ j % 4 = 1 ∨ j % 4 = 2 ∨ j % 4 = 3 by omega) with e0 | e0 | e0 | e0
   ·
    rw [show j = j / 4 * 4 by omega, g0] at hu
    rw [show off + j = off + (j / 4 * 4 + 0) by omega, c0, ← hu]
   ·
    rw [show j = j / 4 * 4 + 1 by omega, g1] at hu
    rw [show off + j = off + (j / 4 * 4 + 1) by omega, c1, ← hu]
   ·
    rw [show j = j / 4 * 4 + 2 by omega, g2] at hu
    rw [show off + j = off + (j / 4 * 4 + 2) by omega, c2, ← hu]
   ·
    rw [show j = j / 4 * 4 + 3 by omega, g3] at hu
    rw [show off + j = off + (j / 4 * 4 + 3) by omega, c3, ← hu]
  ·
   obtain ⟨k, hk, rfl⟩ := List.mem_map.1 hx
   simp only [List.mem_range] at hk
   exact (hfn k (by omega)).2
theorem some_of {α : Type} {ys : List α} {k n : Nat} {o : Option α} (hn : ys.length = n) (hk : k < n) (h : o = ys[k]?) : ∃ y, o = some y := ⟨ys[k], h.trans (List.getElem?_eq_getElem (by omega))⟩
set_option maxRecDepth 100000 in
set_option maxHeartbeats 1000000 in
theorem open_Code {r : Reach} {base : Nat} {v : Value} {d : DataW H} {p : List MemPlace} (hv : Value.okWide Tryz.prog W r base 25 v) (h : DataW.Trod enc Tryz.prog W 0 (fun _ => true) true 25 v d p) :
  ∃ A n c B m e els lims q0 q1 q2 q3, v = .agg #[.slice A n c, .slice B m e, .int .i64 q0, .int .i64 q1, .int .i64 q2, .int .i64 q3] ∧ RdEl W A n els ∧ RdI W B m lims ∧ n ≤ 9223372036854775807 ∧ m ≤ 9223372036854775807 ∧ ∀ x ∈ els, x.1.size ≤ 9223372036854775807 := by
 obtain ⟨cs, rfl, hsz⟩ := okWide_struct Tryz.underlying25 hv
 rw [show Tryz.prog.cellsOf 25 = 6 by kernel_rfl] at hsz
 obtain ⟨fuel, hf⟩ := h
 obtain ⟨ys, n', _, _, hlen, hyl, hff⟩ := DataW.trod_struct Tryz.underlying25 hf
 obtain ⟨cs⟩ := cs
 match cs, hsz with
 | [c0, c1, c2, c3, c4, c5], _ =>
  have k0 : Tryz.prog.cellsOf 22 = 1 := by kernel_rfl
  have k1 : Tryz.prog.cellsOf 23 = 1 := by kernel_rfl
  have k2 : Tryz.prog.cellsOf 3 = 1 := by kernel_rfl
  obtain ⟨y0, t0⟩ := some_of hyl (show 0 < 6 by omega) (hff 0 _ rfl)
  obtain ⟨y1, t1⟩ := some_of hyl (show 1 < 6 by omega) (hff 1 _ rfl)
  obtain ⟨y2, t2⟩ := some_of hyl (show 2 < 6 by omega) (hff 2 _ rfl)
  obtain ⟨y3, t3⟩ := some_of hyl (show 3 < 6 by omega) (hff 3 _ rfl)
  obtain ⟨y4, t4⟩ := some_of hyl (show 4 < 6 by omega) (hff 4 _ rfl)
  obtain ⟨y5, t5⟩ := some_of hyl (show 5 < 6 by omega) (hff 5 _ rfl)
  clear hff
  simp [Value.cells, k0, k1, k2] at t0 t1 t2 t3 t4 t5
  obtain ⟨A, n, c, els, rfl, hE, hnc, hcm, hs⟩ := open_RdEl t0
  obtain ⟨B, m, e, lims, rfl, hL, hmc, hem⟩ := open_RdI1 t1
  obtain ⟨q0, e2, _, _⟩ := DataW.trod_int Tryz.underlying3 t2
  obtain ⟨q1, e3, _, _⟩ := DataW.trod_int Tryz.underlying3 t3
  obtain ⟨q2, e4, _, _⟩ := DataW.trod_int Tryz.underlying3 t4
  obtain ⟨q3, e5, _, _⟩ := DataW.trod_int Tryz.underlying3 t5
  injection e2 with e2; injection e3 with e3; injection e4 with e4; injection e5 with e5
  subst e2 e3 e4 e5
  exact ⟨A, n, c, B, m, e, els, lims, q0, q1, q2, q3, rfl, hE, hL, by simp only [maxLen] at hcm; omega, by simp only [maxLen] at hem; omega, hs⟩
end
end Go.Proofs.YtmeaklaagglmeaaGreatDoor
