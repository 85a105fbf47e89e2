/- What the reference draws for the laws on times: slots, a day and a time near to one of its times. Conditions: none. -/
import Derived.Test.YtogglhgagblihaaDraw11
import Derived.Test.YtogglhgagblihaaTimes
import Derived.Deep.RegionHeld3
set_option linter.unusedVariables false
set_option linter.unusedSimpArgs false
set_option maxRecDepth 100000
namespace Go.Proofs.Ytogglhgagblihaa
open Go.RowKit
theorem day_outD {w W : World} {r : Nat} (hr : w.heap.size = r) (hB : Below r w W) (x0 x1 x2 x3 : Value) : ∃ x, Hid (((((W.setCell ⟨r, 0, none⟩ x0).setCell ⟨r, 1, none⟩ x1).setCell ⟨r, 2, none⟩ x2).setCell ⟨r, 3, none⟩ x3).drew = ext w x) := by
  subst hr
  exact ext_ex (bDrew (bSet (bSet (bSet (bSet hB (p := ⟨w.heap.size, 0, none⟩) (Nat.le_refl _) x0) (p := ⟨w.heap.size, 1, none⟩) (Nat.le_refl _) x1) (p := ⟨w.heap.size, 2, none⟩) (Nat.le_refl _) x2) (p := ⟨w.heap.size, 3, none⟩) (Nat.le_refl _) x3))
/-- What stands when slots and a day are drawn: the result's block r, the cursor behind it, the day's block b. -/
structure SD (w W : World) (r b : Nat) (A : Option Addr) (n c k : Nat) (l : List Int) (D : Option Addr) (q z : Nat) (L : List (Int × Int)) (a0 a1 a2 a3 : Int) : Prop where
  cx : Cx (w.alloc zDay) W (r + 1) A n c k l
  bel : Below r w W
  hz : W.heap[r]? = some zDay
  hd : W.heap[b]? = some (.cells #[.int .i64 a0, .int .i64 a1, .int .i64 a2, .int .i64 a3] 25)
  hb : r + 1 < b
  oD : OwS (r + 1) W D q z L
  nD : blkOf D = none ∨ blkOf D ≠ some (r + 1)
  nR : blkOf D = none ∨ blkOf D ≠ some r
  hq : q ≤ 41
theorem SD.step {w W W' : World} {r b : Nat} {A : Option Addr} {n c k k' : Nat} {l : List Int} {D : Option Addr} {q z : Nat} {L : List (Int × Int)} {a0 a1 a2 a3 : Int} (h : SD w W r b A n c k l D q z L a0 a1 a2 a3) (hX : Cx (w.alloc zDay) W' (r + 1) A n c k' l) (hg : W.grownBy W' (some (r + 1))) : SD w W' r b A n c k' l D q z L a0 a1 a2 a3 := by
  have hb := h.hb
  refine ⟨hX, ?_, heap_kept h.hz hg (by omega), heap_kept h.hd hg (by omega), hb, h.oD.kept hg h.nD, h.nD, h.nR, h.hq⟩
  have hB := h.bel
  have hlt := (Array.getElem?_eq_some_iff.1 h.hz).1
  exact ⟨hg.os.trans hB.os, hg.tape.trans hB.tape, hg.output.trans hB.output, Nat.le_trans hB.size hg.size, fun j hj => by rw [hg.block j (Nat.lt_trans hj hlt) (fun e => by injection e; omega)]; exact hB.block j hj⟩
theorem SD.below {w W W' : World} {r b : Nat} {A : Option Addr} {n c k : Nat} {l : List Int} {D : Option Addr} {q z : Nat} {L : List (Int × Int)} {a0 a1 a2 a3 : Int} (h : SD w W r b A n c k l D q z L a0 a1 a2 a3) (hb : Below W.heap.size W W') : SD w W' r b A n c k l D q z L a0 a1 a2 a3 :=
  h.step (h.cx.below hb) (grownBy_of_below hb)
theorem SD.rd {w W : World} {r b : Nat} {A : Option Addr} {n c k : Nat} {l : List Int} {D : Option Addr} {q z : Nat} {L : List (Int × Int)} {a0 a1 a2 a3 : Int} (h : SD w W r b A n c k l D q z L a0 a1 a2 a3) : RdS W D q L := h.oD.rd
theorem some_ne {A : Option Addr} {g : Nat} (h : blkOf A = none ∨ blkOf A ≠ some g) : blkOf A ≠ some g := by
  rcases h with h | h
  · rw [h]; exact fun e => by cases e
  · exact h
set_option maxHeartbeats 4000000 in
theorem drawOnIce_any (w : World) (A : Option Addr) (n c : Nat) (l : List Int) (hr : RdY w A n l) (hn : n ≤ 9223372036854775807) :
    Calls Try.prog 13 #[.slice A n c] w (RetSDI w) := by
  obtain ⟨h, hz⟩ := cx_day (c := c) hr hn
  have hs : (w.alloc zDay).heap.size = w.heap.size + 1 := by simp
  have hs2 : ((w.alloc zDay).alloc (.cells #[.slice A n c, .int .i64 0, .int .u64 0] 74)).heap.size = w.heap.size + 1 + 1 := by simp
  have hw0 := bAlloc (Below.refl w.heap.size w) zDay
  go_enter Try.func13, Try.ntmps13
  go_wp2_with fail
  refine (slots_any h (by omega)).mono ?_
  rintro e w1 ⟨D, q, z, L, rfl, hq, h1, o1, hN, hG⟩
  have hz1 := heap_kept hz hG (by omega)
  rw [hs] at o1
  go_wp2_with fail
  refine (day_any h1 (by omega)).mono ?_
  rintro e w2 ⟨a0, a1, a2, a3, rfl, h2, g2⟩
  have hgl2 := h2.cur.lt
  have F3 : SD w (w2.alloc (.cells #[.int .i64 a0, .int .i64 a1, .int .i64 a2, .int .i64 a3] 25)) w.heap.size w2.heap.size A n c 1012 l D q z L a0 a1 a2 a3 :=
    have F2B := bAlloc (Below.refl w2.heap.size w2) (.cells #[.int .i64 a0, .int .i64 a1, .int .i64 a2, .int .i64 a3] 25)
    ⟨(h2.below F2B).mono (by omega), bAlloc (hw0.trans (h2.bel.mono hw0.size)) _, heap_old (heap_kept hz1 g2 (by omega)) F2B, heap_alloc_new w2 _, hgl2, (o1.kept g2 (hN.ne (by rw [hs2]; omega))).below F2B, hN.ne (by rw [hs2]; omega), hN.ne (by rw [hs2]; omega), hq⟩
  have hqb : q ≤ 1099511627776 := by omega
  clear h hz hz1 o1 hG g2 h1 hs hs2 hw0 h2 hN hgl2
  go_wp2_with fail
  generalize w2.alloc (.cells #[.int .i64 a0, .int .i64 a1, .int .i64 a2, .int .i64 a3] 25) = w3 at *
  generalize w2.heap.size = b at *
  generalize hrr : w.heap.size = r at *
  have Hr := Lib.hid hrr
  clear hrr
  refine (pick_cx F3.cx 60000 (by omega) (by omega) (by omega)).mono ?_
  intro e w4 hp
  obtain ⟨r4, ⟨hb0, hb1⟩, rfl, h4, g4⟩ := F3.cx.pick hp
  have F4 := F3.step h4 g4
  clear hp F3 g4 h4
  go_wp2_with fail
  refine (among_lit F4.cx (by omega) [0, 200000, 200001, -1, r4] 5 _ rfl rfl (by omega) (by omega) _ rfl 5).mono ?_
  rintro e w5 ⟨v5, hv5, rfl, h5, g5⟩
  have F5 := F4.step h5 g5
  clear hv5 F4 h5 g5
  obtain ⟨⟨q0, q1, q2, q3⟩, q4, q5, q6, q7⟩ := blk4 F5.hd
  have hbl5 : b < w5.heap.size := (Array.getElem?_eq_some_iff.1 F5.hd).1
  have ct := tiGood_any w5 D q z L a0 a1 a2 a3 F5.rd hqb
  by_cases ht : timedB L a0 a1 a2 a3 = true
  · rw [ht] at ct
    go_wp2_with ((go_at_call 63; ((with_reducible refine (ct).mono ?_); rintro e w' ⟨rfl, x5, rfl⟩)))
    have F6 := F5.below (ext_below w5 x5)
    refine (one_cx F6.cx 2 (by omega) (by omega) (by omega)).mono ?_
    rintro e w7 ⟨b7, rfl, hC7, g7⟩
    have F7 := F6.step (F6.cx.grow hC7 g7) g7
    clear F5 F6 hC7 g7 q0 q1 q2 q3 q4 q5 q6 q7 hbl5 ct
    cases b7
    · skip
      have FZ := F7
      obtain ⟨⟨p0, p1, p2, p3⟩, p4, p5, p6, p7⟩ := blk4 FZ.hz
      obtain ⟨⟨s0, s1, s2, s3⟩, s4, s5, s6, s7⟩ := blk4 FZ.hd
      have hlr : r < w7.heap.size := (Array.getElem?_eq_some_iff.1 FZ.hz).1
      have hlb : b < w7.heap.size := (Array.getElem?_eq_some_iff.1 FZ.hd).1
      go_wp2
      go_region
      go_wp2
      obtain ⟨x, hx⟩ := day_outD Hr.out FZ.bel (.int .i64 a0) (.int .i64 a1) (.int .i64 a2) (.int .i64 a3)
      have o9 := ((FZ.oD.day FZ.nR (.int .i64 a0) (.int .i64 a1) (.int .i64 a2) (.int .i64 a3)).below (bDrew (Below.refl _ _))).mono (show w.heap.size ≤ r + 1 by rw [Hr.out]; omega)
      rw [hx.out] at o9
      exact bodyPost_ret (v := .tuple #[.slice D q z, .agg #[.int .i64 a0, .int .i64 a1, .int .i64 a2, .int .i64 a3], .int .i64 (v5)]) (by simp [results, Try.results13, go_sem, *]) rfl ⟨D, q, z, _, a0, a1, a2, a3, _, x, rfl, FZ.hq, hx.out, o9⟩
    · obtain ⟨⟨q0, q1, q2, q3⟩, q4, q5, q6, q7⟩ := blk4 F7.hd
      have hbl7 : b < w7.heap.size := (Array.getElem?_eq_some_iff.1 F7.hd).1
      obtain ⟨hts, htd⟩ := timedB_of ht
      have hsb := slotsB_of hts
      have hlen := F7.oD.len
      have ce := tiRun_any w7 D q z L a0 a1 a2 a3 (-1) 0 F7.rd hts htd (by omega) (by omega)
      have hSl := runS_len (l := L) (a := a0) (b := a1) (c := a2) (gap := a3) (i := -1) (delay := 0) hts (by simp only [dayB, Bool.and_eq_true] at htd; have := inB_iff.1 htd.1.1.2; omega)
      have hSb := runS_bd (l := L) (a := a0) (b := a1) (c := a2) (gap := a3) (i := -1) (delay := 0) ht (by omega) (by omega)
      generalize runS L a0 a1 a2 a3 (-1) 0 = S at *
      have hgl7 := F7.cx.cur.lt
      go_wp2_with ((go_at_call 64; ((with_reducible refine (ce).mono ?_); rintro e w' ⟨E, p, y, E2, p2, y2, x7, rfl, rfl, oE, oE2⟩)))
      have F8 := F7.below (ext_below w7 x7)
      have hEp := oE.len
      have oE8 : OwI w7.heap.size (ext w7 x7) E p y S := oE
      generalize ext w7 x7 = w8 at *
      have nE : blkOf E = none ∨ blkOf E ≠ some (r + 1) := Nw.ne (w := w7) (fun b hb => (oE8.blk hb).1) hgl7
      clear F7 q0 q1 q2 q3 q4 q5 q6 q7 hbl7 ce oE oE2
      have hq1 : 1 ≤ q := by omega
      refine (pick_cx F8.cx q (by omega) (by omega) (by omega)).mono ?_
      intro e w9 hp
      obtain ⟨r9, ⟨hc0, hc1⟩, rfl, h9, g9⟩ := F8.cx.pick hp
      have F9 := F8.step h9 g9
      have oE9 := oE8.kept g9 nE
      clear hp F8 oE8 h9 g9
      obtain ⟨i, rfl⟩ : ∃ i : Nat, r9 = i := ⟨r9.toNat, by omega⟩
      obtain ⟨eD, rfl, hD1, hD2⟩ := F9.oD.form_ (by omega)
      obtain ⟨eE, rfl, hE1, hE2⟩ := oE9.form_ (by omega)
      have hcD := (F9.oD.cell_ i (by omega)).2
      have hcE := oE9.cell_ i (by omega)
      have hm := slotsB_music hts i (by omega)
      have hs := hSb _ (getD_mem 0 S i (by omega))
      have hiq : (i : Int) < q := by omega
      have hip : (i : Int) < p := by omega
      have nD := some_ne F9.nD
      have nE' := some_ne nE
      clear hSb hts htd hsb hlen hSl hEp ht
      generalize (L[i]?.getD (0, 0)).2 = m at *
      generalize S[i]?.getD 0 = s at *
      have hgl9 := F9.cx.cur.lt
      have ca : Calls Try.prog 66 #[.pointer (some ⟨r + 1, 0, none⟩), .slice (some ⟨w9.heap.size, 0, none⟩) 5 5] ((w9.alloc (.cells #[.int .i64 (-1), .int .i64 0, .int .i64 1, .int .i64 (m - 1), .int .i64 m] 3)).drew) (fun e w' => ∃ v, e = .returned (.int .i64 v) ∧ (-1 ≤ v ∧ v ≤ 300) ∧ SD w w' r b A n c 3000 l (some ⟨eD, 0, none⟩) q z L a0 a1 a2 a3 ∧ w'.cell? ⟨eE, i, none⟩ = some (.int .i64 s) ∧ w'.cell? ⟨eD, i * 2 + 1, none⟩ = some (.int .i64 m)) := by
        change Calls _ _ _ ((w9.drew).alloc (.cells #[.int .i64 (-1), .int .i64 0, .int .i64 1, .int .i64 (m - 1), .int .i64 m] 3)) _
        have F10 := F9.below (bDrew (Below.refl _ w9))
        refine (among_lit F10.cx (by omega) [-1, 0, 1, m - 1, m] 5 _ rfl rfl (by omega) (by omega) _ rfl 5).mono ?_
        rintro e w' ⟨v, hv, rfl, hX, hg⟩
        have F11 := F10.step hX hg
        refine ⟨v, rfl, by simp at hv; omega, ⟨F11.cx.mono (by omega), F11.bel, F11.hz, F11.hd, F11.hb, F11.oD, F11.nD, F11.nR, F11.hq⟩, ?_, ?_⟩
        · exact hg.cell (a := ⟨eE, i, none⟩) hcE nE'
        · exact hg.cell (a := ⟨eD, i * 2 + 1, none⟩) hcD nD
      go_wp2_with fail
      have hmw : IntKind.i64.wrap (m - 1) = m - 1 := IntWalk.i64_in _ (by omega)
      go_region_held3 (fun w' => w'.cell? ⟨eE, i, none⟩ = some (.int .i64 s) ∧ w'.cell? ⟨eD, i * 2 + 1, none⟩ = some (.int .i64 m)) (refine ⟨?_, ?_⟩ <;> first | assumption | simp [*, go_sem]) (first | (go_at_call 66; ((with_reducible refine (ca).mono ?_); rintro e w' ⟨v, rfl, hv, F11, hk1, hk2⟩)))
      have FZ := F11
      obtain ⟨⟨p0, p1, p2, p3⟩, p4, p5, p6, p7⟩ := blk4 FZ.hz
      obtain ⟨⟨s0, s1, s2, s3⟩, s4, s5, s6, s7⟩ := blk4 FZ.hd
      have hlr : r < w'.heap.size := (Array.getElem?_eq_some_iff.1 FZ.hz).1
      have hlb : b < w'.heap.size := (Array.getElem?_eq_some_iff.1 FZ.hd).1
      go_wp2
      go_region
      go_wp2
      obtain ⟨x, hx⟩ := day_outD Hr.out FZ.bel (.int .i64 a0) (.int .i64 a1) (.int .i64 a2) (.int .i64 a3)
      have o9 := ((FZ.oD.day FZ.nR (.int .i64 a0) (.int .i64 a1) (.int .i64 a2) (.int .i64 a3)).below (bDrew (Below.refl _ _))).mono (show w.heap.size ≤ r + 1 by rw [Hr.out]; omega)
      rw [hx.out] at o9
      exact bodyPost_ret (v := .tuple #[.slice (some ⟨eD, 0, none⟩) q z, .agg #[.int .i64 a0, .int .i64 a1, .int .i64 a2, .int .i64 a3], .int .i64 (IntKind.i64.wrap (s + v))]) (by simp [results, Try.results13, go_sem, *]) rfl ⟨(some ⟨eD, 0, none⟩), q, z, _, a0, a1, a2, a3, _, x, rfl, FZ.hq, hx.out, o9⟩
  · have ht' : timedB L a0 a1 a2 a3 = false := by simpa using ht
    rw [ht'] at ct
    go_wp2_with ((go_at_call 63; ((with_reducible refine (ct).mono ?_); rintro e w' ⟨rfl, x5, rfl⟩)))
    have F6 := F5.below (ext_below w5 x5)
    clear F5 q0 q1 q2 q3 q4 q5 q6 q7 hbl5 ct
    generalize ext w5 x5 = w6 at *
    have FZ := F6
    obtain ⟨⟨p0, p1, p2, p3⟩, p4, p5, p6, p7⟩ := blk4 FZ.hz
    obtain ⟨⟨s0, s1, s2, s3⟩, s4, s5, s6, s7⟩ := blk4 FZ.hd
    have hlr : r < w6.heap.size := (Array.getElem?_eq_some_iff.1 FZ.hz).1
    have hlb : b < w6.heap.size := (Array.getElem?_eq_some_iff.1 FZ.hd).1
    go_wp2
    go_region
    go_wp2
    obtain ⟨x, hx⟩ := day_outD Hr.out FZ.bel (.int .i64 a0) (.int .i64 a1) (.int .i64 a2) (.int .i64 a3)
    have o9 := ((FZ.oD.day FZ.nR (.int .i64 a0) (.int .i64 a1) (.int .i64 a2) (.int .i64 a3)).below (bDrew (Below.refl _ _))).mono (show w.heap.size ≤ r + 1 by rw [Hr.out]; omega)
    rw [hx.out] at o9
    exact bodyPost_ret (v := .tuple #[.slice D q z, .agg #[.int .i64 a0, .int .i64 a1, .int .i64 a2, .int .i64 a3], .int .i64 (v5)]) (by simp [results, Try.results13, go_sem, *]) rfl ⟨D, q, z, _, a0, a1, a2, a3, _, x, rfl, FZ.hq, hx.out, o9⟩
end Go.Proofs.Ytogglhgagblihaa
