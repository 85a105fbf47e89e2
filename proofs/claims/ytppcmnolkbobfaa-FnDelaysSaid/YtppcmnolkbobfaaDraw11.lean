/- What the reference draws for the laws on times: slots and a day together, a delay, lengths of music. Conditions: none. -/
import Derived.Test.YtppcmnolkbobfaaDraw10
set_option linter.unusedVariables false
set_option linter.unusedSimpArgs false
set_option maxRecDepth 100000
namespace Go.Proofs.Ytppcmnolkbobfaa
open Go.RowKit
/-- Slots and a day in new memory. -/
def RetSD (w : World) (e : Ending) (w' : World) : Prop := ∃ (D : Option Addr) (q z : Nat) (L : List (Int × Int)) (a0 a1 a2 a3 : Int) (x : World), e = .returned (.tuple #[.slice D q z, .agg #[.int .i64 a0, .int .i64 a1, .int .i64 a2, .int .i64 a3]]) ∧ q ≤ 41 ∧ w' = ext w x ∧ OwS w.heap.size (ext w x) D q z L
/-- Slots, a day and an int. -/
def RetSDI (w : World) (e : Ending) (w' : World) : Prop := ∃ (D : Option Addr) (q z : Nat) (L : List (Int × Int)) (a0 a1 a2 a3 i : Int) (x : World), e = .returned (.tuple #[.slice D q z, .agg #[.int .i64 a0, .int .i64 a1, .int .i64 a2, .int .i64 a3], .int .i64 i]) ∧ q ≤ 41 ∧ w' = ext w x ∧ OwS w.heap.size (ext w x) D q z L
def RetSDII (w : World) (e : Ending) (w' : World) : Prop := ∃ (D : Option Addr) (q z : Nat) (L : List (Int × Int)) (a0 a1 a2 a3 i j : Int) (x : World), e = .returned (.tuple #[.slice D q z, .agg #[.int .i64 a0, .int .i64 a1, .int .i64 a2, .int .i64 a3], .int .i64 i, .int .i64 j]) ∧ q ≤ 41 ∧ w' = ext w x ∧ OwS w.heap.size (ext w x) D q z L
def RetIII (w : World) (e : Ending) (w' : World) : Prop := ∃ (i j k : Int) (x : World), e = .returned (.tuple #[.int .i64 i, .int .i64 j, .int .i64 k]) ∧ w' = ext w x
def zDay : Obj := .cells #[.int .i64 0, .int .i64 0, .int .i64 0, .int .i64 0] 56
/-- The start of a drawing function that hands back a day: the result's block, the cursor behind it. -/
theorem cx_day {w : World} {A : Option Addr} {n c : Nat} {l : List Int} (hr : RdY w A n l) (hn : n ≤ 9223372036854775807) :
    Cx (w.alloc zDay) ((w.alloc zDay).alloc (.cells #[.slice A n c, .int .i64 0, .int .u64 0] 103)) (w.heap.size + 1) A n c 0 l ∧ ((w.alloc zDay).alloc (.cells #[.slice A n c, .int .i64 0, .int .u64 0] 103)).heap[w.heap.size]? = some zDay := by
  have h := cx_new (c := c) (hr.below (bAlloc (Below.refl _ w) zDay)) hn
  have hs : (w.alloc zDay).heap.size = w.heap.size + 1 := by simp
  rw [hs] at h
  exact ⟨h, heap_old (heap_alloc_new w zDay) (bAlloc (Below.refl _ _) _)⟩
theorem Nw.old {w W : World} {D : Option Addr} (h : Nw W D) (r : Nat) (hr : r < W.heap.size) : blkOf D = none ∨ blkOf D ≠ some r := h.ne hr
theorem day_out {w W : World} {r : Nat} (hr : w.heap.size = r) (hB : Below r w W) (x0 x1 x2 x3 : Value) : ∃ x, Hid ((((W.setCell ⟨r, 0, none⟩ x0).setCell ⟨r, 1, none⟩ x1).setCell ⟨r, 2, none⟩ x2).setCell ⟨r, 3, none⟩ x3 = ext w x) := by
  subst hr
  exact ext_ex (bSet (bSet (bSet (bSet hB (p := ⟨w.heap.size, 0, none⟩) (Nat.le_refl _) x0) (p := ⟨w.heap.size, 1, none⟩) (Nat.le_refl _) x1) (p := ⟨w.heap.size, 2, none⟩) (Nat.le_refl _) x2) (p := ⟨w.heap.size, 3, none⟩) (Nat.le_refl _) x3)
theorem OwS.day {base q z r : Nat} {W : World} {D : Option Addr} {L : List (Int × Int)} (h : OwS base W D q z L) (hne : blkOf D = none ∨ blkOf D ≠ some r) (x0 x1 x2 x3 : Value) :
    OwS base ((((W.setCell ⟨r, 0, none⟩ x0).setCell ⟨r, 1, none⟩ x1).setCell ⟨r, 2, none⟩ x2).setCell ⟨r, 3, none⟩ x3) D q z L :=
  (((h.kept (cur_grown _ r 0 x0) hne).kept (cur_grown _ r 1 x1) hne).kept (cur_grown _ r 2 x2) hne).kept (cur_grown _ r 3 x3) hne
set_option maxHeartbeats 1000000 in
theorem drawStartTimes_any (w : World) (A : Option Addr) (n c : Nat) (l : List Int) (hr : RdY w A n l) (hn : n ≤ 9223372036854775807) :
    Calls Try.prog 39 #[.slice A n c] w (RetSD w) := by
  obtain ⟨h, hz⟩ := cx_day (c := c) hr hn
  have hs : (w.alloc zDay).heap.size = w.heap.size + 1 := by simp
  have hs2 : ((w.alloc zDay).alloc (.cells #[.slice A n c, .int .i64 0, .int .u64 0] 103)).heap.size = w.heap.size + 1 + 1 := by simp
  have hw0 := bAlloc (Below.refl w.heap.size w) zDay
  go_enter Try.func39, Try.ntmps39
  go_wp2_with fail
  refine (slots_any h (by omega)).mono ?_
  rintro e w1 ⟨D, q, z, L, rfl, hq, h1, o1, hN, hG⟩
  have hz1 := heap_kept hz hG (by omega)
  rw [hs] at o1
  go_wp2_with fail
  refine (day_any h1 (by omega)).mono ?_
  rintro e w2 ⟨a0, a1, a2, a3, rfl, h2, g2⟩
  have hz2 := heap_kept hz1 g2 (by omega)
  have o2 := o1.kept g2 (hN.ne (by rw [hs2]; omega))
  have hNr := hN.ne (g := w.heap.size) (by rw [hs2]; omega)
  have hB2 : Below w.heap.size w w2 := hw0.trans (h2.bel.mono hw0.size)
  clear h hz hz1 o1 hG g2 h1 hs hs2 hw0 h2
  generalize hrr : w.heap.size = r at *
  obtain ⟨⟨p0, p1, p2, p3⟩, p4, p5, p6, p7⟩ := blk4 hz2
  have Hr := Lib.hid hrr
  clear hz2 hrr
  go_wp2
  obtain ⟨x, hx⟩ := day_out Hr.out hB2 (.int .i64 a0) (.int .i64 a1) (.int .i64 a2) (.int .i64 a3)
  have o3 := (o2.day hNr (.int .i64 a0) (.int .i64 a1) (.int .i64 a2) (.int .i64 a3)).mono (show w.heap.size ≤ r + 1 by rw [Hr.out]; omega)
  rw [hx.out] at o3
  exact bodyPost_ret (v := .tuple #[.slice D q z, .agg #[.int .i64 a0, .int .i64 a1, .int .i64 a2, .int .i64 a3]]) (by simp [results, Try.results39, go_sem, *]) rfl ⟨D, q, z, L, a0, a1, a2, a3, x, rfl, hq, hx.out, o3⟩
set_option maxHeartbeats 1000000 in
theorem drawDelayedTimes_any (w : World) (A : Option Addr) (n c : Nat) (l : List Int) (hr : RdY w A n l) (hn : n ≤ 9223372036854775807) :
    Calls Try.prog 57 #[.slice A n c] w (RetSDII w) := by
  obtain ⟨h, hz⟩ := cx_day (c := c) hr hn
  have hs : (w.alloc zDay).heap.size = w.heap.size + 1 := by simp
  have hs2 : ((w.alloc zDay).alloc (.cells #[.slice A n c, .int .i64 0, .int .u64 0] 103)).heap.size = w.heap.size + 1 + 1 := by simp
  have hw0 := bAlloc (Below.refl w.heap.size w) zDay
  go_enter Try.func57, Try.ntmps57
  go_wp2_with fail
  refine (slots_any h (by omega)).mono ?_
  rintro e w1 ⟨D, q, z, L, rfl, hq, h1, o1, hN, hG⟩
  have hz1 := heap_kept hz hG (by omega)
  rw [hs] at o1
  go_wp2_with fail
  refine (day_any h1 (by omega)).mono ?_
  rintro e w2 ⟨a0, a1, a2, a3, rfl, h2, g2⟩
  have hz2 := heap_kept hz1 g2 (by omega)
  have hg' : w.heap.size + 1 < ((w.alloc zDay).alloc (.cells #[.slice A n c, .int .i64 0, .int .u64 0] 103)).heap.size := by rw [hs2]; omega
  have o2 := o1.kept g2 (hN.ne hg')
  go_wp2_with fail
  refine (pick_cx h2 (q + 1) (by omega) (by omega) (by omega)).mono ?_
  intro e w3 hp
  obtain ⟨r3, ⟨ha0, ha1⟩, rfl, h3, g3⟩ := h2.pick hp
  have hz3 := heap_kept hz2 g3 (by omega)
  have o3 := o2.kept g3 (hN.ne hg')
  go_wp2_with fail
  refine (pick_cx h3 20 (by omega) (by omega) (by omega)).mono ?_
  intro e w4 hp
  obtain ⟨r4, ⟨hb0, hb1⟩, rfl, h4, g4⟩ := h3.pick hp
  have hz4 := heap_kept hz3 g4 (by omega)
  have o4 := o3.kept g4 (hN.ne hg')
  go_wp2_with fail
  refine (among_lit h4 (by omega) [0, 1, 300, 3600, 3601, -1] 6 _ rfl rfl (by omega) (by omega) _ rfl 6).mono ?_
  rintro e w5 ⟨v5, hv5, rfl, h5, g5⟩
  have hz5 := heap_kept hz4 g5 (by omega)
  have o5 := o4.kept g5 (hN.ne hg')
  have hNr := hN.ne (g := w.heap.size) (by rw [hs2]; omega)
  have hB5 : Below w.heap.size w w5 := hw0.trans (h5.bel.mono hw0.size)
  clear h hz hz1 hz2 hz3 hz4 o1 o2 o3 o4 hG g2 g3 g4 g5 h1 h2 h3 h4 h5 hs hs2 hw0 hg' hv5 hp
  generalize hrr : w.heap.size = r at *
  obtain ⟨⟨p0, p1, p2, p3⟩, p4, p5, p6, p7⟩ := blk4 hz5
  have Hr := Lib.hid hrr
  clear hz5 hrr
  go_wp2
  obtain ⟨x, hx⟩ := day_out Hr.out hB5 (.int .i64 a0) (.int .i64 a1) (.int .i64 a2) (.int .i64 a3)
  have o6 := (o5.day hNr (.int .i64 a0) (.int .i64 a1) (.int .i64 a2) (.int .i64 a3)).mono (show w.heap.size ≤ r + 1 by rw [Hr.out]; omega)
  rw [hx.out] at o6
  exact bodyPost_ret (v := .tuple #[.slice D q z, .agg #[.int .i64 a0, .int .i64 a1, .int .i64 a2, .int .i64 a3], .int .i64 (r3 - r4 / 19), .int .i64 v5]) (by simp [results, Try.results57, go_sem, *]) rfl ⟨D, q, z, L, a0, a1, a2, a3, _, _, x, rfl, hq, hx.out, o6⟩
set_option maxHeartbeats 1000000 in
theorem drawMusicSlip_any (w : World) (A : Option Addr) (n c : Nat) (l : List Int) (hr : RdY w A n l) (hn : n ≤ 9223372036854775807) :
    Calls Try.prog 63 #[.slice A n c] w (RetIII w) := by
  have h := cx_new (c := c) hr hn
  go_enter Try.func63, Try.ntmps63
  go_wp2_with fail
  have hs : (w.alloc (.cells #[.slice A n c, .int .i64 0, .int .u64 0] 103)).heap.size = w.heap.size + 1 := by simp
  generalize w.alloc (.cells #[.slice A n c, .int .i64 0, .int .u64 0] 103) = W0 at *
  refine (among_lit h (by omega) [1, 150, 160, 170, 240, 600, 601, 0] 8 _ hs.symm rfl (by omega) (by omega) _ rfl 8).mono ?_
  rintro e w1 ⟨v1, hv1, rfl, h1, g1⟩
  clear hv1 hs
  go_wp2_with fail
  refine (among_lit h1 (by omega) [1, 160, 240, 600, 601, 0] 6 _ rfl rfl (by omega) (by omega) _ rfl 6).mono ?_
  rintro e w2 ⟨v2, hv2, rfl, h2, g2⟩
  clear hv2
  go_wp2_with fail
  refine (among_lit h2 (by omega) [0, 5, 10, 60, 61, -1] 6 _ rfl rfl (by omega) (by omega) _ rfl 6).mono ?_
  rintro e w3 ⟨v3, hv3, rfl, h3, g3⟩
  clear hv3
  go_wp2
  go_ret3
  obtain ⟨x, rfl⟩ := ext_ex h3.bel
  exact ⟨v1, v2, v3, x, rfl, rfl⟩
end Go.Proofs.Ytppcmnolkbobfaa
