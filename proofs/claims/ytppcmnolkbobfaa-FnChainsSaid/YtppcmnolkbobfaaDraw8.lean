/- What the reference draws for the law on chains: records with their links. Conditions: none. -/
import Derived.Test.YtppcmnolkbobfaaDraw7
import Derived.Test.YtppcmnolkbobfaaJoin
import Derived.Deep.DeepCutAuto
import Derived.Deep.CutBlock
set_option linter.unusedVariables false
set_option linter.unusedSimpArgs false
set_option maxRecDepth 100000
namespace Go.Proofs.Ytppcmnolkbobfaa
open Go.RowKit
/-- Rows of strings of the call's own: what a drawing function hands back. -/
def RetT1 (w : World) (e : Ending) (w' : World) : Prop := ∃ (A : Option Addr) (n c : Nat) (L : List ByteArray) (x : World), e = .returned (.slice A n c) ∧ n ≤ 1000 ∧ (∀ s ∈ L, s.size ≤ 1000) ∧ w' = ext w x ∧ OwT w.heap.size (ext w x) A n c L
def RetTIT (w : World) (e : Ending) (w' : World) : Prop := ∃ (A : Option Addr) (n c : Nat) (L : List ByteArray) (i : Int) (s : ByteArray) (x : World), e = .returned (.tuple #[.slice A n c, .int .i64 i, .string s]) ∧ n ≤ 1000 ∧ (∀ s ∈ L, s.size ≤ 1000) ∧ s.size ≤ 1000 ∧ w' = ext w x ∧ OwT w.heap.size (ext w x) A n c L
def RetTT1 (w : World) (e : Ending) (w' : World) : Prop := ∃ (A : Option Addr) (n c : Nat) (L : List ByteArray) (B : Option Addr) (m d : Nat) (M : List Int) (x : World), e = .returned (.tuple #[.slice A n c, .slice B m d]) ∧ n ≤ 1000 ∧ (∀ s ∈ L, s.size ≤ 1000) ∧ m ≤ 2000 ∧ w' = ext w x ∧ OwT w.heap.size (ext w x) A n c L ∧ OwI w.heap.size (ext w x) B m d M
def RetS1 (w : World) (e : Ending) (w' : World) : Prop := ∃ (s : ByteArray) (x : World), e = .returned (.string s) ∧ s.size ≤ 1000 ∧ w' = ext w x
theorem drawChainOf_any (w : World) (A : Option Addr) (n c : Nat) (l : List Int) (hr : RdY w A n l) (hn : n ≤ 9223372036854775807) :
    Calls Try.prog 22 #[.slice A n c] w (RetT1 w) := by
  have h := cx_new (c := c) hr hn
  go_enter Try.func22, Try.ntmps22
  go_wp2_with fail
  refine (records_any h (by omega)).mono ?_
  rintro e w1 ⟨D, q, z, L, rfl, hq, hS, h1, o1, hN, hG⟩
  go_wp2
  go_ret
  obtain ⟨x, rfl⟩ := ext_ex h1.bel
  exact ⟨D, q, z, L, x, rfl, hq, hS, rfl, o1⟩
theorem drawRecordDigest_any (w : World) (A : Option Addr) (n c : Nat) (l : List Int) (hr : RdY w A n l) (hn : n ≤ 9223372036854775807) :
    Calls Try.prog 36 #[.slice A n c] w (RetS1 w) := by
  have h := cx_new (c := c) hr hn
  go_enter Try.func36, Try.ntmps36
  go_wp2_with fail
  refine (record_any h (by omega)).mono ?_
  rintro e w1 ⟨s1, hs1, rfl, h1, hG⟩
  go_wp2
  go_ret
  obtain ⟨x, rfl⟩ := ext_ex h1.bel
  exact ⟨s1, x, rfl, hs1, rfl⟩
set_option maxHeartbeats 400000 in
theorem drawReplaceRecord_any (w : World) (A : Option Addr) (n c : Nat) (l : List Int) (hr : RdY w A n l) (hn : n ≤ 9223372036854775807) :
    Calls Try.prog 30 #[.slice A n c] w (RetTIT w) := by
  have h := cx_new (c := c) hr hn
  have hg : w.heap.size < (w.alloc (.cells #[.slice A n c, .int .i64 0, .int .u64 0] 103)).heap.size := by simp
  go_enter Try.func30, Try.ntmps30
  go_wp2_with fail
  refine (records_any h (by omega)).mono ?_
  rintro e w1 ⟨D, q, z, L, rfl, hq, hS, h1, o1, hN, hG⟩
  go_wp2_with fail
  refine (pick_cx h1 (q + 1) (by omega) (by omega) (by omega)).mono ?_
  rintro e w2 ⟨r2, ⟨ha0, ha1⟩, rfl, hC2, hg2⟩
  have h2 := h1.grow hC2 hg2
  have o2 := o1.kept hg2 (hN.ne hg)
  go_wp2_with fail
  refine (pick_cx h2 24 (by omega) (by omega) (by omega)).mono ?_
  rintro e w3 ⟨r3, ⟨hb0, hb1⟩, rfl, hC3, hg3⟩
  have h3 := h2.grow hC3 hg3
  have o3 := o2.kept hg3 (hN.ne hg)
  go_wp2_with fail
  refine (record_any h3 (by omega)).mono ?_
  rintro e w4 ⟨s4, hs4, rfl, h4, hg4⟩
  have o4 := o3.kept hg4 (hN.ne hg)
  go_wp2
  go_ret3
  obtain ⟨x, rfl⟩ := ext_ex h4.bel
  exact ⟨D, q, z, L, _, s4, x, rfl, hq, hS, hs4, rfl, o4⟩
/-- Two rows of the call's own, strings and ints, lying apart, beside the cursor. -/
structure FD (w W : World) (g : Nat) (A : Option Addr) (n c k : Nat) (l : List Int) (D : Option Addr) (q z : Nat) (L : List ByteArray) (B : Option Addr) (m d : Nat) (M : List Int) (qm mm : Nat) : Prop where
  cx : Cx w W g A n c k l
  oD : OwT w.heap.size W D q z L
  oB : OwI w.heap.size W B m d M
  ne : blkOf D = none ∨ blkOf D ≠ blkOf B
  nD : blkOf D = none ∨ blkOf D ≠ some g
  nB : blkOf B = none ∨ blkOf B ≠ some g
  hq : q ≤ qm
  hm : m ≤ mm
  hS : ∀ s ∈ L, s.size ≤ 1000
def FDs (w : World) (g : Nat) (A : Option Addr) (n c k : Nat) (l : List Int) (qm mm : Nat) (a b : Value) (W : World) : Prop := ∃ D q z L B m d M, a = .slice D q z ∧ b = .slice B m d ∧ FD w W g A n c k l D q z L B m d M qm mm
theorem ne_some {A : Option Addr} {g : Nat} (h : blkOf A = none ∨ blkOf A ≠ some g) : blkOf A ≠ some g := by
  rcases h with h | h
  · rw [h]; exact fun e => by cases e
  · exact h
theorem ne_symm {A B : Option Addr} (h : blkOf A = none ∨ blkOf A ≠ blkOf B) : blkOf B = none ∨ blkOf B ≠ blkOf A := by
  rcases h with h | h
  · cases hB : blkOf B with
    | none => exact .inl rfl
    | some g => exact .inr (by rw [h]; exact fun e => by cases e)
  · exact .inr (Ne.symm h)
theorem FD.grow {w W W' : World} {g n c k k' : Nat} {A D B : Option Addr} {l M : List Int} {L : List ByteArray} {q z m d qm mm : Nat} (h : FD w W g A n c k l D q z L B m d M qm mm) (hX : Cx w W' g A n c k' l) (hg : W.grownBy W' (some g)) : FD w W' g A n c k' l D q z L B m d M qm mm :=
  ⟨hX, h.oD.kept hg h.nD, h.oB.kept hg h.nB, h.ne, h.nD, h.nB, h.hq, h.hm, h.hS⟩
set_option maxHeartbeats 2000000 in
theorem drawFirstDamage_any (w : World) (A : Option Addr) (n c : Nat) (l : List Int) (hr : RdY w A n l) (hn : n ≤ 9223372036854775807) :
    Calls Try.prog 34 #[.slice A n c] w (RetTT1 w) := by
  have h := cx_new (c := c) hr hn
  have hg : w.heap.size < (w.alloc (.cells #[.slice A n c, .int .i64 0, .int .u64 0] 103)).heap.size := by simp
  go_enter Try.func34, Try.ntmps34
  go_wp2_with fail
  refine (records_any h (by omega)).mono ?_
  rintro e w1 ⟨D, q, z, L, rfl, hq, hS, h1, o1, hN, hG⟩
  have hB1 := h1.bel
  have hg1 := h1.cur.lt
  go_wp2_with fail
  refine (chChain_big _ _ _ _ L o1.rd (by omega) (fun s hs => Nat.le_trans (hS s hs) (by omega))).mono ?_
  rintro e w2 ⟨B, m, d, x2, rfl, hw2, o2⟩
  have hb2 := (ext_below w1 x2)
  rw [← hw2] at o2 hb2
  have hlm := o2.len
  have hm2 : m = q := by rw [← hlm, chainV, linksTo_len]; exact o1.len
  have F2 : FD w w2 w.heap.size A n c 1000 l D q z L B m d (chainV L) 1000 1000 :=
    ⟨(h1.below hb2).mono (by omega), o1.below hb2, o2.mono hB1.size, ne_before o1 o2, hN.ne hg, Nw.ne (w := w1) (fun b hb => (o2.blk hb).1) hg1, hq, by omega, hS⟩
  clear hw2 hb2 hB1 hN hG o1 h1 hlm hm2 hq hS h o2
  generalize chainV L = M at F2
  go_wp2_with fail
  refine (pick_cx F2.cx 4 (by omega) (by omega) (by omega)).mono ?_
  rintro e w3 ⟨r3, ⟨ha0, ha1⟩, rfl, hC3, hg3⟩
  have F3 := F2.grow (F2.cx.grow hC3 hg3) hg3
  clear hC3 hg3 F2
  go_upto_block 0 with fail
  go_cut [5, 6] (FDs w w.heap.size A n c 3000 l 1000 1000)
  case first =>
    by_cases e0 : r3 = 0
    · subst e0
      by_cases hm0 : (0 : Int) < m
      · go_wp2_with fail
        refine (pick_cx F3.cx m (by omega) (by omega) (by have := F3.hm; omega)).mono ?_
        rintro e w4 ⟨r4, ⟨hb0, hb1⟩, rfl, hC4, hg4⟩
        have F4 := F3.grow (F3.cx.grow hC4 hg4) hg4
        have hgl4 := F4.cx.cur.lt
        go_wp2_with fail
        refine (among_cx (F4.cx.below (bAlloc (Below.refl _ w4) _)) 4 4 [0, 7, 1000002, 1000003] (by omega) (int_lit [0, 7, 1000002, 1000003] (by simp [maxLen]) _ rfl) hgl4 (by omega) (by omega)).mono ?_
        rintro e w5 ⟨v5, hv5, rfl, hC5, hg5⟩
        have X5 := (F4.cx.below (bAlloc (Below.refl _ w4) _)).grow hC5 hg5
        have oD5 := (F4.oD.below (bAlloc (Below.refl _ w4) _)).kept hg5 F4.nD
        have oB5 := (F4.oB.below (bAlloc (Below.refl _ w4) _)).kept hg5 F4.nB
        obtain ⟨i, rfl⟩ : ∃ i : Nat, r4 = i := ⟨r4.toNat, by omega⟩
        obtain ⟨bB, rfl, hbB1, hbB2⟩ := oB5.form_ (by omega)
        have hc6 := oB5.cell_ i (by omega)
        have hf6 := oB5.frozen_ i
        have hst := oB5.stored_ i v5
        have hiI : (i : Int) < m := by omega
        clear hv5
        have Fe : FD w (w5.setCell ⟨bB, i, none⟩ (.int .i64 v5)) w.heap.size A n c 3000 l D q z L (some ⟨bB, 0, none⟩) m d (M.set i v5) 1000 1000 :=
          ⟨(X5.row hst.2 (ne_some F4.nB) (fun b hb => by injection hb with hb; omega)).mono (by omega), oD5.kept hst.2 F4.ne, hst.1, F4.ne, F4.nD, F4.nB, F4.hq, F4.hm, F4.hS⟩
        go_wp2
        go_meet
        exact ⟨_, _, _, _, _, _, _, _, rfl, rfl, Fe⟩
      · go_wp2
        go_meet
        exact ⟨_, _, _, _, _, _, _, _, rfl, rfl, F3.grow (F3.cx.mono (by omega)) (World.grownBy.refl _ _)⟩
    · by_cases e1 : r3 = 1
      · subst e1
        by_cases hq0 : (0 : Int) < q
        · go_wp2_with fail
          refine (l1OwnS_any _ _ _ _ _ F3.oD.rd (by have := F3.hq; omega)).mono ?_
          rintro e w4 ⟨E, p, y, x4, rfl, hw4, o4⟩
          have hb4 := ext_below w3 x4
          rw [← hw4] at o4 hb4
          have hlp : p = q := by rw [← o4.len]; exact F3.oD.len
          have hg3 := F3.cx.cur.lt
          have F4 : FD w w4 w.heap.size A n c 1002 l E p y L B m d M 1000 1000 :=
            ⟨F3.cx.below hb4, o4.mono F3.cx.bel.size, F3.oB.below hb4, ne_symm (ne_before F3.oB o4), Nw.ne (w := w3) (fun b hb => (o4.blk hb).1) hg3, F3.nB, by have := F3.hq; omega, F3.hm, F3.hS⟩
          have hp0 : 0 < p := by omega
          clear hw4 hb4 o4 hlp
          go_wp2_with fail
          refine (pick_cx F4.cx p (by omega) (by omega) (by have := F4.hq; omega)).mono ?_
          rintro e w5 ⟨r5, ⟨hb0, hb1⟩, rfl, hC5, hg5⟩
          have F5 := F4.grow (F4.cx.grow hC5 hg5) hg5
          go_wp2_with fail
          refine (record_any F5.cx (by omega)).mono ?_
          rintro e w6 ⟨s6, hs6, rfl, h6, hg6⟩
          have F6 := F5.grow h6 hg6
          obtain ⟨i, rfl⟩ : ∃ i : Nat, r5 = i := ⟨r5.toNat, by omega⟩
          obtain ⟨bE, rfl, hbE1, hbE2⟩ := F6.oD.form_ (by omega)
          have hc6 := F6.oD.cell_ i (by omega)
          have hf6 := F6.oD.frozen_ i
          have hst := F6.oD.stored_ i s6
          have hiI : (i : Int) < p := by omega
          have Fe : FD w (w6.setCell ⟨bE, i, none⟩ (.string s6)) w.heap.size A n c 3000 l (some ⟨bE, 0, none⟩) p y (L.set i s6) B m d M 1000 1000 :=
            ⟨(F6.cx.row hst.2 (ne_some F6.nD) (fun b hb => by injection hb with hb; omega)).mono (by omega), hst.1, F6.oB.kept hst.2 (ne_symm F6.ne), F6.ne, F6.nD, F6.nB, F6.hq, F6.hm, fun s hs => by
              rcases List.mem_or_eq_of_mem_set hs with h | h
              · exact F6.hS s h
              · rw [h]; exact hs6⟩
          go_wp2
          go_meet
          exact ⟨_, _, _, _, _, _, _, _, rfl, rfl, Fe⟩
        · go_wp2
          go_meet
          exact ⟨_, _, _, _, _, _, _, _, rfl, rfl, F3.grow (F3.cx.mono (by omega)) (World.grownBy.refl _ _)⟩
      · go_wp2
        go_meet
        exact ⟨_, _, _, _, _, _, _, _, rfl, rfl, F3.grow (F3.cx.mono (by omega)) (World.grownBy.refl _ _)⟩
  case rest =>
    clear F3
    obtain ⟨D, q, z, L, B, m, d, M, rfl, rfl, F⟩ := hcut
    go_wp2_with fail
    refine (one_cx F.cx 24 (by omega) (by omega) (by omega)).mono ?_
    rintro e w4 ⟨b4, rfl, hC4, hg4⟩
    have F4 := F.grow (F.cx.grow hC4 hg4) hg4
    have hq4 := F4.hq
    have hm4 := F4.hm
    cases b4
    · go_wp2
      go_ret2
      obtain ⟨x, rfl⟩ := ext_ex F4.cx.bel
      exact ⟨D, q, z, L, B, m, d, M, x, rfl, by omega, F4.hS, by omega, rfl, F4.oD, F4.oB⟩
    · have hB4 := F4.cx.bel
      have hmb : m ≤ 1099511627776 := by omega
      have oB4 := F4.oB
      go_wp2_with ((at_builtin; (refine wpl_push_int w _ _ _ ?_ rfl _ _ rfl B m d _ rfl oB4 ?_ ?_ rfl hmb ?_); (focus (first | rfl | (simp; done))); (focus (repeat (first | exact Below.refl _ _ | assumption | refine bExt ?_ _ | refine bAlloc ?_ _ | refine bDrewN ?_ _ | refine bDrew ?_ | refine bSet ?_ (by first | exact Nat.le_refl _ | omega | (simp; done) | (simp; omega)) _))); (focus (repeat (first | exact Below.refl _ _ | assumption | refine bExt ?_ _ | refine bAlloc ?_ _ | refine bDrewN ?_ _ | refine bDrew ?_ | refine bSet ?_ (by first | exact Nat.le_refl _ | omega | (simp; done) | (simp; omega)) _))); intro B' d' y6 o6 hga hda))
      have oD6 := F4.oD.kept hga F4.ne
      go_ret2
      exact ⟨D, q, z, L, B', m + 1, d', _, y6, rfl, by omega, F4.hS, by omega, rfl, oD6, o6⟩
end Go.Proofs.Ytppcmnolkbobfaa
