/- What the reference draws for the laws on boards: slots, a day, scores and a time. Conditions: none. -/
import Derived.Test.YtogglhgagblihaaZDrawBd
set_option linter.unusedVariables false
set_option linter.unusedSimpArgs false
set_option maxRecDepth 100000
namespace Go.Proofs.Ytogglhgagblihaa
open Go.RowKit
/-- Slots, a day, scores and an int. -/
def RetSDLI (w : World) (e : Ending) (w' : World) : Prop := ∃ (D : Option Addr) (q z : Nat) (L : List (Int × Int)) (a0 a1 a2 a3 : Int) (E : Option Addr) (p y : Nat) (S : List Int) (t : Int) (x : World), e = .returned (.tuple #[.slice D q z, .agg #[.int .i64 a0, .int .i64 a1, .int .i64 a2, .int .i64 a3], .slice E p y, .int .i64 t]) ∧ q ≤ 41 ∧ p ≤ 1000 ∧ w' = ext w x ∧ OwS w.heap.size (ext w x) D q z L ∧ OwI w.heap.size (ext w x) E p y S
def RetSDL (w : World) (e : Ending) (w' : World) : Prop := ∃ (D : Option Addr) (q z : Nat) (L : List (Int × Int)) (a0 a1 a2 a3 : Int) (E : Option Addr) (p y : Nat) (S : List Int) (x : World), e = .returned (.tuple #[.slice D q z, .agg #[.int .i64 a0, .int .i64 a1, .int .i64 a2, .int .i64 a3], .slice E p y]) ∧ q ≤ 41 ∧ p ≤ 1000 ∧ w' = ext w x ∧ OwS w.heap.size (ext w x) D q z L ∧ OwI w.heap.size (ext w x) E p y S
theorem OwI.day {base q z r : Nat} {W : World} {D : Option Addr} {L : List Int} (h : OwI base W D q z L) (hne : blkOf D = none ∨ blkOf D ≠ some r) (x0 x1 x2 x3 : Value) :
    OwI base ((((W.setCell ⟨r, 0, none⟩ x0).setCell ⟨r, 1, none⟩ x1).setCell ⟨r, 2, none⟩ x2).setCell ⟨r, 3, none⟩ x3) D q z L :=
  (((h.kept (cur_grown _ r 0 x0) hne).kept (cur_grown _ r 1 x1) hne).kept (cur_grown _ r 2 x2) hne).kept (cur_grown _ r 3 x3) hne
/-- The scores beside what is drawn. -/
structure ScS (W : World) (r : Nat) (E : Option Addr) (p y : Nat) (S : List Int) : Prop where
  o : OwI (r + 1) W E p y S
  nC : blkOf E = none ∨ blkOf E ≠ some (r + 1)
  nR : blkOf E = none ∨ blkOf E ≠ some r
  hp : p ≤ 1000
theorem ScS.step {W W' : World} {r : Nat} {E : Option Addr} {p y : Nat} {S : List Int} (h : ScS W r E p y S) (hg : W.grownBy W' (some (r + 1))) : ScS W' r E p y S := ⟨h.o.kept hg h.nC, h.nC, h.nR, h.hp⟩
theorem ScS.nil_ {W : World} {r : Nat} : ScS W r none 0 0 [] := ⟨OwI.nil_, .inl rfl, .inl rfl, by omega⟩
theorem SD.ltR {w W : World} {r b : Nat} {A : Option Addr} {n c k : Nat} {l : List Int} {D : Option Addr} {q z : Nat} {L : List (Int × Int)} {a0 a1 a2 a3 : Int} (h : SD w W r b A n c k l D q z L a0 a1 a2 a3) : r < W.heap.size := (Array.getElem?_eq_some_iff.1 h.hz).1
theorem SD.ltB {w W : World} {r b : Nat} {A : Option Addr} {n c k : Nat} {l : List Int} {D : Option Addr} {q z : Nat} {L : List (Int × Int)} {a0 a1 a2 a3 : Int} (h : SD w W r b A n c k l D q z L a0 a1 a2 a3) : b < W.heap.size := (Array.getElem?_eq_some_iff.1 h.hd).1
theorem scores_sd {w W : World} {r b : Nat} {A : Option Addr} {n c k : Nat} {l : List Int} {D : Option Addr} {q z : Nat} {L : List (Int × Int)} {a0 a1 a2 a3 : Int} (h : SD w W r b A n c k l D q z L a0 a1 a2 a3) (hr : Hid (w.heap.size = r)) (hk : k ≤ 20000) :
    Calls Try.prog 81 #[.pointer (some ⟨r + 1, 0, none⟩), .int .i64 q] W (fun e w' => ∃ (E : Option Addr) (p y : Nat) (S : List Int), e = .returned (.slice E p y) ∧ SD w w' r b A n c (k + 1000) l D q z L a0 a1 a2 a3 ∧ ScS w' r E p y S) := by
  have hrr := hr.out
  have hs : (w.alloc zDay).heap.size = r + 1 := by simp [hrr]
  refine (scoresOf_any h.cx (by omega) q h.hq).mono ?_
  rintro e w' ⟨E, p, y, S, rfl, hp, hX, oE, nE, hG⟩
  rw [hs] at oE
  have hlt := h.cx.cur.lt
  exact ⟨E, p, y, S, rfl, h.step hX hG, ⟨oE, nE.ne hlt, nE.ne (by omega), hp⟩⟩
theorem clock_sd {w W : World} {r b : Nat} {A : Option Addr} {n c k : Nat} {l : List Int} {D : Option Addr} {q z : Nat} {L : List (Int × Int)} {a0 a1 a2 a3 : Int} (h : SD w W r b A n c k l D q z L a0 a1 a2 a3) {E : Option Addr} {p y : Nat} {S : List Int} (hS : ScS W r E p y S) (hk : k ≤ 30000) :
    Calls Try.prog 82 #[.pointer (some ⟨r + 1, 0, none⟩), .slice D q z, .agg #[.int .i64 a0, .int .i64 a1, .int .i64 a2, .int .i64 a3]] W (fun e w' => ∃ t : Int, e = .returned (.int .i64 t) ∧ SD w w' r b A n c (k + 20) l D q z L a0 a1 a2 a3 ∧ ScS w' r E p y S) := by
  refine (clock_any h.cx (by omega) D q z L a0 a1 a2 a3 _ h.oD h.hq h.nD).mono ?_
  rintro e w' ⟨t, rfl, hX, hG⟩
  exact ⟨t, rfl, h.step hX hG, hS.step hG⟩
set_option maxHeartbeats 4000000 in
theorem drawBoardAt_any (w : World) (A : Option Addr) (n c : Nat) (l : List Int) (hr : RdY w A n l) (hn : n ≤ 9223372036854775807) :
    Calls Try.prog 26 #[.slice A n c] w (RetSDLI w) := by
  obtain ⟨h, hz⟩ := cx_day (c := c) hr hn
  have hs : (w.alloc zDay).heap.size = w.heap.size + 1 := by simp
  have hs2 : ((w.alloc zDay).alloc (.cells #[.slice A n c, .int .i64 0, .int .u64 0] 74)).heap.size = w.heap.size + 1 + 1 := by simp
  have hw0 := bAlloc (Below.refl w.heap.size w) zDay
  go_enter Try.func26, Try.ntmps26
  go_wp2_with fail
  refine (slots_any h (by omega)).mono ?_
  rintro e w1 ⟨D, q, z, L, rfl, hq, h1, o1, hN, hG⟩
  have hz1 := heap_kept hz hG (by omega)
  rw [hs] at o1
  go_wp2_with fail
  refine (day_any h1 (by omega)).mono ?_
  rintro e w2 ⟨a0, a1, a2, a3, rfl, h2, g2⟩
  have hgl2 := h2.cur.lt
  have F3 : SD w (w2.alloc (.cells #[.int .i64 a0, .int .i64 a1, .int .i64 a2, .int .i64 a3] 25)) w.heap.size w2.heap.size A n c 1012 l D q z L a0 a1 a2 a3 :=
    have F2B := bAlloc (Below.refl w2.heap.size w2) (.cells #[.int .i64 a0, .int .i64 a1, .int .i64 a2, .int .i64 a3] 25)
    ⟨(h2.below F2B).mono (by omega), bAlloc (hw0.trans (h2.bel.mono hw0.size)) _, heap_old (heap_kept hz1 g2 (by omega)) F2B, heap_alloc_new w2 _, hgl2, (o1.kept g2 (hN.ne (by rw [hs2]; omega))).below F2B, hN.ne (by rw [hs2]; omega), hN.ne (by rw [hs2]; omega), hq⟩
  have hqb : q ≤ 1099511627776 := by omega
  clear h hz hz1 o1 hG g2 h1 hs hs2 hw0 h2 hN hgl2
  go_wp2_with fail
  generalize w2.alloc (.cells #[.int .i64 a0, .int .i64 a1, .int .i64 a2, .int .i64 a3] 25) = w3 at *
  generalize w2.heap.size = b at *
  generalize hrr : w.heap.size = r at *
  have Hr := Lib.hid hrr
  clear hrr
  obtain ⟨⟨q0, q1, q2, q3⟩, q4, q5, q6, q7⟩ := blk4 F3.hd
  have hlb3 : b < w3.heap.size := (Array.getElem?_eq_some_iff.1 F3.hd).1
  have F3d := F3.below (bDrew (Below.refl w3.heap.size w3))
  have S3d : ScS w3.drew r none 0 0 [] := ScS.nil_
  go_region_with (first | (go_at_call 81; ((with_reducible refine (scores_sd (by assumption) Hr (by omega)).mono ?_); rintro e w' ⟨E, p, y, S, rfl, F4, S4⟩; obtain ⟨⟨s0, s1, s2, s3⟩, s4, s5, s6, s7⟩ := blk4 F4.hd; obtain ⟨⟨u0, u1, u2, u3⟩, u4, u5, u6, u7⟩ := blk4 F4.hz; have hl4 := F4.ltR; have hl5 := F4.ltB)) | (go_at_call 82; ((with_reducible refine (clock_sd (by assumption) (by assumption) (by omega)).mono ?_); rintro e w' ⟨t, rfl, F5, S5⟩; obtain ⟨⟨s0, s1, s2, s3⟩, s4, s5, s6, s7⟩ := blk4 F5.hd; obtain ⟨⟨u0, u1, u2, u3⟩, u4, u5, u6, u7⟩ := blk4 F5.hz; have hl4 := F5.ltR; have hl5 := F5.ltB)))
  all_goals
    have FZ := F5
    have SZ := S5
    obtain ⟨⟨p0, p1, p2, p3⟩, p4, p5, p6, p7⟩ := blk4 FZ.hz
    have hlr := (Array.getElem?_eq_some_iff.1 FZ.hz).1
    go_wp2
    obtain ⟨x, hx⟩ := day_out Hr.out FZ.bel (.int .i64 a0) (.int .i64 a1) (.int .i64 a2) (.int .i64 a3)
    have o9 := (FZ.oD.day FZ.nR (.int .i64 a0) (.int .i64 a1) (.int .i64 a2) (.int .i64 a3)).mono (show w.heap.size ≤ r + 1 by rw [Hr.out]; omega)
    have u9 := (SZ.o.day SZ.nR (.int .i64 a0) (.int .i64 a1) (.int .i64 a2) (.int .i64 a3)).mono (show w.heap.size ≤ r + 1 by rw [Hr.out]; omega)
    rw [hx.out] at o9 u9
    exact bodyPost_ret (v := .tuple #[.slice D q z, .agg #[.int .i64 a0, .int .i64 a1, .int .i64 a2, .int .i64 a3], .slice E p y, .int .i64 t]) (by simp [results, Try.results26, go_sem, *]) rfl ⟨D, q, z, _, a0, a1, a2, a3, E, p, y, _, t, x, rfl, FZ.hq, SZ.hp, hx.out, o9, u9⟩
set_option maxHeartbeats 4000000 in
theorem drawLeaderTimes_any (w : World) (A : Option Addr) (n c : Nat) (l : List Int) (hr : RdY w A n l) (hn : n ≤ 9223372036854775807) :
    Calls Try.prog 35 #[.slice A n c] w (RetSDL w) := by
  obtain ⟨h, hz⟩ := cx_day (c := c) hr hn
  have hs : (w.alloc zDay).heap.size = w.heap.size + 1 := by simp
  have hs2 : ((w.alloc zDay).alloc (.cells #[.slice A n c, .int .i64 0, .int .u64 0] 74)).heap.size = w.heap.size + 1 + 1 := by simp
  have hw0 := bAlloc (Below.refl w.heap.size w) zDay
  go_enter Try.func35, Try.ntmps35
  go_wp2_with fail
  refine (slots_any h (by omega)).mono ?_
  rintro e w1 ⟨D, q, z, L, rfl, hq, h1, o1, hN, hG⟩
  have hz1 := heap_kept hz hG (by omega)
  rw [hs] at o1
  go_wp2_with fail
  refine (day_any h1 (by omega)).mono ?_
  rintro e w2 ⟨a0, a1, a2, a3, rfl, h2, g2⟩
  have hgl2 := h2.cur.lt
  have F3 : SD w (w2.alloc (.cells #[.int .i64 a0, .int .i64 a1, .int .i64 a2, .int .i64 a3] 25)) w.heap.size w2.heap.size A n c 1012 l D q z L a0 a1 a2 a3 :=
    have F2B := bAlloc (Below.refl w2.heap.size w2) (.cells #[.int .i64 a0, .int .i64 a1, .int .i64 a2, .int .i64 a3] 25)
    ⟨(h2.below F2B).mono (by omega), bAlloc (hw0.trans (h2.bel.mono hw0.size)) _, heap_old (heap_kept hz1 g2 (by omega)) F2B, heap_alloc_new w2 _, hgl2, (o1.kept g2 (hN.ne (by rw [hs2]; omega))).below F2B, hN.ne (by rw [hs2]; omega), hN.ne (by rw [hs2]; omega), hq⟩
  have hqb : q ≤ 1099511627776 := by omega
  clear h hz hz1 o1 hG g2 h1 hs hs2 hw0 h2 hN hgl2
  go_wp2_with fail
  generalize w2.alloc (.cells #[.int .i64 a0, .int .i64 a1, .int .i64 a2, .int .i64 a3] 25) = w3 at *
  generalize w2.heap.size = b at *
  generalize hrr : w.heap.size = r at *
  have Hr := Lib.hid hrr
  clear hrr
  obtain ⟨⟨q0, q1, q2, q3⟩, q4, q5, q6, q7⟩ := blk4 F3.hd
  have hlb3 : b < w3.heap.size := (Array.getElem?_eq_some_iff.1 F3.hd).1
  have F3d := F3.below (bDrew (Below.refl w3.heap.size w3))
  have S3d : ScS w3.drew r none 0 0 [] := ScS.nil_
  go_region_with (first | (go_at_call 81; ((with_reducible refine (scores_sd (by assumption) Hr (by omega)).mono ?_); rintro e w' ⟨E, p, y, S, rfl, F4, S4⟩; obtain ⟨⟨s0, s1, s2, s3⟩, s4, s5, s6, s7⟩ := blk4 F4.hd; obtain ⟨⟨u0, u1, u2, u3⟩, u4, u5, u6, u7⟩ := blk4 F4.hz; have hl4 := F4.ltR; have hl5 := F4.ltB)))
  all_goals
    have FZ := F4
    have SZ := S4
    obtain ⟨⟨p0, p1, p2, p3⟩, p4, p5, p6, p7⟩ := blk4 FZ.hz
    have hlr := (Array.getElem?_eq_some_iff.1 FZ.hz).1
    go_wp2
    obtain ⟨x, hx⟩ := day_out Hr.out FZ.bel (.int .i64 a0) (.int .i64 a1) (.int .i64 a2) (.int .i64 a3)
    have o9 := (FZ.oD.day FZ.nR (.int .i64 a0) (.int .i64 a1) (.int .i64 a2) (.int .i64 a3)).mono (show w.heap.size ≤ r + 1 by rw [Hr.out]; omega)
    have u9 := (SZ.o.day SZ.nR (.int .i64 a0) (.int .i64 a1) (.int .i64 a2) (.int .i64 a3)).mono (show w.heap.size ≤ r + 1 by rw [Hr.out]; omega)
    rw [hx.out] at o9 u9
    exact bodyPost_ret (v := .tuple #[.slice D q z, .agg #[.int .i64 a0, .int .i64 a1, .int .i64 a2, .int .i64 a3], .slice E p y]) (by simp [results, Try.results35, go_sem, *]) rfl ⟨D, q, z, _, a0, a1, a2, a3, E, p, y, _, x, rfl, FZ.hq, SZ.hp, hx.out, o9, u9⟩
set_option maxHeartbeats 4000000 in
theorem drawShownAt_any (w : World) (A : Option Addr) (n c : Nat) (l : List Int) (hr : RdY w A n l) (hn : n ≤ 9223372036854775807) :
    Calls Try.prog 94 #[.slice A n c] w (RetSDI w) := by
  obtain ⟨h, hz⟩ := cx_day (c := c) hr hn
  have hs : (w.alloc zDay).heap.size = w.heap.size + 1 := by simp
  have hs2 : ((w.alloc zDay).alloc (.cells #[.slice A n c, .int .i64 0, .int .u64 0] 74)).heap.size = w.heap.size + 1 + 1 := by simp
  have hw0 := bAlloc (Below.refl w.heap.size w) zDay
  go_enter Try.func94, Try.ntmps94
  go_wp2_with fail
  refine (slots_any h (by omega)).mono ?_
  rintro e w1 ⟨D, q, z, L, rfl, hq, h1, o1, hN, hG⟩
  have hz1 := heap_kept hz hG (by omega)
  rw [hs] at o1
  go_wp2_with fail
  refine (day_any h1 (by omega)).mono ?_
  rintro e w2 ⟨a0, a1, a2, a3, rfl, h2, g2⟩
  have hgl2 := h2.cur.lt
  have F3 : SD w (w2.alloc (.cells #[.int .i64 a0, .int .i64 a1, .int .i64 a2, .int .i64 a3] 25)) w.heap.size w2.heap.size A n c 1012 l D q z L a0 a1 a2 a3 :=
    have F2B := bAlloc (Below.refl w2.heap.size w2) (.cells #[.int .i64 a0, .int .i64 a1, .int .i64 a2, .int .i64 a3] 25)
    ⟨(h2.below F2B).mono (by omega), bAlloc (hw0.trans (h2.bel.mono hw0.size)) _, heap_old (heap_kept hz1 g2 (by omega)) F2B, heap_alloc_new w2 _, hgl2, (o1.kept g2 (hN.ne (by rw [hs2]; omega))).below F2B, hN.ne (by rw [hs2]; omega), hN.ne (by rw [hs2]; omega), hq⟩
  have hqb : q ≤ 1099511627776 := by omega
  clear h hz hz1 o1 hG g2 h1 hs hs2 hw0 h2 hN hgl2
  go_wp2_with fail
  generalize w2.alloc (.cells #[.int .i64 a0, .int .i64 a1, .int .i64 a2, .int .i64 a3] 25) = w3 at *
  generalize w2.heap.size = b at *
  generalize hrr : w.heap.size = r at *
  have Hr := Lib.hid hrr
  clear hrr
  obtain ⟨⟨q0, q1, q2, q3⟩, q4, q5, q6, q7⟩ := blk4 F3.hd
  have hlb3 : b < w3.heap.size := (Array.getElem?_eq_some_iff.1 F3.hd).1
  have F3d := F3.below (bDrew (Below.refl w3.heap.size w3))
  have S3d : ScS w3.drew r none 0 0 [] := ScS.nil_
  go_region_with (first | (go_at_call 82; ((with_reducible refine (clock_sd (by assumption) (by assumption) (by omega)).mono ?_); rintro e w' ⟨t, rfl, F5, S5⟩; obtain ⟨⟨s0, s1, s2, s3⟩, s4, s5, s6, s7⟩ := blk4 F5.hd; obtain ⟨⟨u0, u1, u2, u3⟩, u4, u5, u6, u7⟩ := blk4 F5.hz; have hl4 := F5.ltR; have hl5 := F5.ltB)))
  all_goals
    have FZ := F5
    have SZ := S5
    obtain ⟨⟨p0, p1, p2, p3⟩, p4, p5, p6, p7⟩ := blk4 FZ.hz
    have hlr := (Array.getElem?_eq_some_iff.1 FZ.hz).1
    go_wp2
    obtain ⟨x, hx⟩ := day_out Hr.out FZ.bel (.int .i64 a0) (.int .i64 a1) (.int .i64 a2) (.int .i64 a3)
    have o9 := (FZ.oD.day FZ.nR (.int .i64 a0) (.int .i64 a1) (.int .i64 a2) (.int .i64 a3)).mono (show w.heap.size ≤ r + 1 by rw [Hr.out]; omega)
    have u9 := (SZ.o.day SZ.nR (.int .i64 a0) (.int .i64 a1) (.int .i64 a2) (.int .i64 a3)).mono (show w.heap.size ≤ r + 1 by rw [Hr.out]; omega)
    rw [hx.out] at o9 u9
    exact bodyPost_ret (v := .tuple #[.slice D q z, .agg #[.int .i64 a0, .int .i64 a1, .int .i64 a2, .int .i64 a3], .int .i64 t]) (by simp [results, Try.results94, go_sem, *]) rfl ⟨D, q, z, _, a0, a1, a2, a3, t, x, rfl, FZ.hq, hx.out, o9⟩
set_option maxHeartbeats 1000000 in
theorem drawNextUp_any (w : World) (A : Option Addr) (n c : Nat) (l : List Int) (hr : RdY w A n l) (hn : n ≤ 9223372036854775807) :
    Calls Try.prog 38 #[.slice A n c] w (RetSDI w) := by
  have hz := heap_alloc_new w (.cells #[.int .i64 0, .int .i64 0, .int .i64 0, .int .i64 0] 25)
  have hB := bAlloc (Below.refl w.heap.size w) (.cells #[.int .i64 0, .int .i64 0, .int .i64 0, .int .i64 0] 25)
  have hs : (w.alloc (.cells #[.int .i64 0, .int .i64 0, .int .i64 0, .int .i64 0] 25)).heap.size = w.heap.size + 1 := by simp
  have hr1 := hr.below (bAlloc (Below.refl _ w) (.cells #[.int .i64 0, .int .i64 0, .int .i64 0, .int .i64 0] 25))
  go_enter Try.func38, Try.ntmps38
  go_wp2_with fail
  generalize w.alloc (.cells #[.int .i64 0, .int .i64 0, .int .i64 0, .int .i64 0] 25) = w1 at *
  refine (drawShownAt_any w1 A n c l hr1 hn).mono ?_
  rintro e w2 ⟨D, q, z, L, a0, a1, a2, a3, t, x, rfl, hq, hw2, oD⟩
  rw [← hw2] at oD
  have hz2 := heap_old hz (show Below w1.heap.size w1 w2 by rw [hw2]; exact ext_below _ _)
  have hB2 : Below w.heap.size w w2 := hB.trans ((show Below w1.heap.size w1 w2 by rw [hw2]; exact ext_below _ _).mono hB.size)
  have hne : blkOf D = none ∨ blkOf D ≠ some w.heap.size := by
    cases hD : blkOf D with
    | none => exact .inl rfl
    | some g => exact .inr (fun e => by injection e with e; have := (oD.blk hD).1; omega)
  clear hw2 hz hB hr1 hr
  generalize hrr : w.heap.size = r at *
  obtain ⟨⟨p0, p1, p2, p3⟩, p4, p5, p6, p7⟩ := blk4 hz2
  have hlr : r < w2.heap.size := (Array.getElem?_eq_some_iff.1 hz2).1
  have Hr := Lib.hid hrr
  have Hs := Lib.hid hs
  clear hz2 hrr hs
  go_wp2
  obtain ⟨x, hx⟩ := day_out Hr.out hB2 (.int .i64 a0) (.int .i64 a1) (.int .i64 a2) (.int .i64 a3)
  have o9 := (oD.day hne (.int .i64 a0) (.int .i64 a1) (.int .i64 a2) (.int .i64 a3)).mono (show w.heap.size ≤ w1.heap.size by rw [Hr.out, Hs.out]; omega)
  rw [hx.out] at o9
  exact bodyPost_ret (v := .tuple #[.slice D q z, .agg #[.int .i64 a0, .int .i64 a1, .int .i64 a2, .int .i64 a3], .int .i64 t]) (by simp [results, Try.results38, go_sem, *]) rfl ⟨D, q, z, _, a0, a1, a2, a3, t, x, rfl, hq, hx.out, o9⟩
end Go.Proofs.Ytogglhgagblihaa
