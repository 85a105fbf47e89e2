/- What the reference draws for the laws on times: slots and a day together, a delay, lengths of music. Conditions: none. -/
import Derived.Test.YtogglhgagblihaaDraw10
set_option linter.unusedVariables false
set_option linter.unusedSimpArgs false
set_option maxRecDepth 100000
namespace Go.Proofs.Ytogglhgagblihaa
open Go.RowKit
/-- Slots and a day in new memory. -/
def RetSD (w : World) (e : Ending) (w' : World) : Prop := ∃ (D : Option Addr) (q z : Nat) (L : List (Int × Int)) (a0 a1 a2 a3 : Int) (x : World), e = .returned (.tuple #[.slice D q z, .agg #[.int .i64 a0, .int .i64 a1, .int .i64 a2, .int .i64 a3]]) ∧ q ≤ 41 ∧ w' = ext w x ∧ OwS w.heap.size (ext w x) D q z L
/-- Slots, a day and an int. -/
def RetSDI (w : World) (e : Ending) (w' : World) : Prop := ∃ (D : Option Addr) (q z : Nat) (L : List (Int × Int)) (a0 a1 a2 a3 i : Int) (x : World), e = .returned (.tuple #[.slice D q z, .agg #[.int .i64 a0, .int .i64 a1, .int .i64 a2, .int .i64 a3], .int .i64 i]) ∧ q ≤ 41 ∧ w' = ext w x ∧ OwS w.heap.size (ext w x) D q z L
def RetSDII (w : World) (e : Ending) (w' : World) : Prop := ∃ (D : Option Addr) (q z : Nat) (L : List (Int × Int)) (a0 a1 a2 a3 i j : Int) (x : World), e = .returned (.tuple #[.slice D q z, .agg #[.int .i64 a0, .int .i64 a1, .int .i64 a2, .int .i64 a3], .int .i64 i, .int .i64 j]) ∧ q ≤ 41 ∧ w' = ext w x ∧ OwS w.heap.size (ext w x) D q z L
def RetIII (w : World) (e : Ending) (w' : World) : Prop := ∃ (i j k : Int) (x : World), e = .returned (.tuple #[.int .i64 i, .int .i64 j, .int .i64 k]) ∧ w' = ext w x
def zDay : Obj := .cells #[.int .i64 0, .int .i64 0, .int .i64 0, .int .i64 0] 25
/-- The start of a drawing function that hands back a day: the result's block, the cursor behind it. -/
theorem cx_day {w : World} {A : Option Addr} {n c : Nat} {l : List Int} (hr : RdY w A n l) (hn : n ≤ 9223372036854775807) :
    Cx (w.alloc zDay) ((w.alloc zDay).alloc (.cells #[.slice A n c, .int .i64 0, .int .u64 0] 74)) (w.heap.size + 1) A n c 0 l ∧ ((w.alloc zDay).alloc (.cells #[.slice A n c, .int .i64 0, .int .u64 0] 74)).heap[w.heap.size]? = some zDay := by
  have h := cx_new (c := c) (hr.below (bAlloc (Below.refl _ w) zDay)) hn
  have hs : (w.alloc zDay).heap.size = w.heap.size + 1 := by simp
  rw [hs] at h
  exact ⟨h, heap_old (heap_alloc_new w zDay) (bAlloc (Below.refl _ _) _)⟩
theorem Nw.old {w W : World} {D : Option Addr} (h : Nw W D) (r : Nat) (hr : r < W.heap.size) : blkOf D = none ∨ blkOf D ≠ some r := h.ne hr
theorem day_out {w W : World} {r : Nat} (hr : w.heap.size = r) (hB : Below r w W) (x0 x1 x2 x3 : Value) : ∃ x, Hid ((((W.setCell ⟨r, 0, none⟩ x0).setCell ⟨r, 1, none⟩ x1).setCell ⟨r, 2, none⟩ x2).setCell ⟨r, 3, none⟩ x3 = ext w x) := by
  subst hr
  exact ext_ex (bSet (bSet (bSet (bSet hB (p := ⟨w.heap.size, 0, none⟩) (Nat.le_refl _) x0) (p := ⟨w.heap.size, 1, none⟩) (Nat.le_refl _) x1) (p := ⟨w.heap.size, 2, none⟩) (Nat.le_refl _) x2) (p := ⟨w.heap.size, 3, none⟩) (Nat.le_refl _) x3)
theorem OwS.day {base q z r : Nat} {W : World} {D : Option Addr} {L : List (Int × Int)} (h : OwS base W D q z L) (hne : blkOf D = none ∨ blkOf D ≠ some r) (x0 x1 x2 x3 : Value) :
    OwS base ((((W.setCell ⟨r, 0, none⟩ x0).setCell ⟨r, 1, none⟩ x1).setCell ⟨r, 2, none⟩ x2).setCell ⟨r, 3, none⟩ x3) D q z L :=
  (((h.kept (cur_grown _ r 0 x0) hne).kept (cur_grown _ r 1 x1) hne).kept (cur_grown _ r 2 x2) hne).kept (cur_grown _ r 3 x3) hne
set_option maxHeartbeats 1000000 in
theorem drawStartTimes_any (w : World) (A : Option Addr) (n c : Nat) (l : List Int) (hr : RdY w A n l) (hn : n ≤ 9223372036854775807) :
    Calls Try.prog 6 #[.slice A n c] w (RetSD w) := by
  obtain ⟨h, hz⟩ := cx_day (c := c) hr hn
  have hs : (w.alloc zDay).heap.size = w.heap.size + 1 := by simp
  have hs2 : ((w.alloc zDay).alloc (.cells #[.slice A n c, .int .i64 0, .int .u64 0] 74)).heap.size = w.heap.size + 1 + 1 := by simp
  have hw0 := bAlloc (Below.refl w.heap.size w) zDay
  go_enter Try.func6, Try.ntmps6
  go_wp2_with fail
  refine (slots_any h (by omega)).mono ?_
  rintro e w1 ⟨D, q, z, L, rfl, hq, h1, o1, hN, hG⟩
  have hz1 := heap_kept hz hG (by omega)
  rw [hs] at o1
  go_wp2_with fail
  refine (day_any h1 (by omega)).mono ?_
  rintro e w2 ⟨a0, a1, a2, a3, rfl, h2, g2⟩
  have hz2 := heap_kept hz1 g2 (by omega)
  have o2 := o1.kept g2 (hN.ne (by rw [hs2]; omega))
  have hNr := hN.ne (g := w.heap.size) (by rw [hs2]; omega)
  have hB2 : Below w.heap.size w w2 := hw0.trans (h2.bel.mono hw0.size)
  clear h hz hz1 o1 hG g2 h1 hs hs2 hw0 h2
  generalize hrr : w.heap.size = r at *
  obtain ⟨⟨p0, p1, p2, p3⟩, p4, p5, p6, p7⟩ := blk4 hz2
  have Hr := Lib.hid hrr
  clear hz2 hrr
  go_wp2
  obtain ⟨x, hx⟩ := day_out Hr.out hB2 (.int .i64 a0) (.int .i64 a1) (.int .i64 a2) (.int .i64 a3)
  have o3 := (o2.day hNr (.int .i64 a0) (.int .i64 a1) (.int .i64 a2) (.int .i64 a3)).mono (show w.heap.size ≤ r + 1 by rw [Hr.out]; omega)
  rw [hx.out] at o3
  exact bodyPost_ret (v := .tuple #[.slice D q z, .agg #[.int .i64 a0, .int .i64 a1, .int .i64 a2, .int .i64 a3]]) (by simp [results, Try.results6, go_sem, *]) rfl ⟨D, q, z, L, a0, a1, a2, a3, x, rfl, hq, hx.out, o3⟩
end Go.Proofs.Ytogglhgagblihaa
