/- The reference's drawn series. Conditions: fewer than 2^39 choices, inputs below 2^40 bytes. -/
import Derived.Test.YtppcmnolkbobfaaDraw3
set_option linter.unusedVariables false
set_option linter.unusedSimpArgs false
set_option maxRecDepth 100000
namespace Go.Proofs.Ytppcmnolkbobfaa
open Go.RowKit
/-- The row is nil, or its block is not below w. -/
def Nw (w : World) (D : Option Addr) : Prop := ∀ b, blkOf D = some b → w.heap.size ≤ b
theorem Nw.nil_ {w : World} : Nw w none := fun b h => by cases h
theorem Nw.push {w W : World} {D D' : Option Addr} (h : Nw w D) (hW : w.heap.size ≤ W.heap.size) (hd : blkOf D' = blkOf D ∨ ∃ g, blkOf D' = some g ∧ W.heap.size < g) : Nw w D' := fun b hb => by
  rcases hd with hd | ⟨g, hd, hlt⟩
  · exact h b (by rw [← hd]; exact hb)
  · rw [hd] at hb; injection hb with hb; omega
theorem Nw.ne {w : World} {D : Option Addr} {g : Nat} (h : Nw w D) (hg : g < w.heap.size) : blkOf D = none ∨ blkOf D ≠ some g := by
  cases hD : blkOf D with
  | none => exact .inl rfl
  | some b => exact .inr (fun e => by injection e with e; have := h b hD; omega)
theorem Nw.ne' {w : World} {D : Option Addr} {g : Nat} (h : Nw w D) (hg : g < w.heap.size) : blkOf D ≠ some g := fun e => by have := h g e; omega
/-- Writes to a row that is new since w are no writes to w. -/
theorem grown_new {w W W' : World} {row : Option Nat} {D : Option Addr} (h : w.grownBy W row) (hg : W.grownBy W' (blkOf D)) (hD : Nw w D) : w.grownBy W' row := by
  refine ⟨hg.os.trans h.os, hg.tape.trans h.tape, hg.output.trans h.output, Nat.le_trans h.size hg.size, fun k hk hne => ?_⟩
  rw [hg.block k (Nat.lt_of_lt_of_le hk h.size) (fun e => by have := hD k e.symm; omega)]
  exact h.block k hk hne
theorem int_lit {w : World} (l : List Int) (hl : l.length ≤ maxLen) (cs : Array Value) (hcs : cs.toList = l.map (Value.int .i64)) : RdI (w.alloc (.cells cs 3)) (some ⟨w.heap.size, 0, none⟩) l.length l := (OwI.lit_ (Below.refl _ w) l hl cs hcs).rd
/-- What a function that draws a slice of ints from the cursor ends with. -/
def RetDI (R w : World) (g : Nat) (A : Option Addr) (n c k : Nat) (l : List Int) (e : Ending) (w' : World) : Prop := ∃ (D : Option Addr) (q z : Nat) (L : List Int), e = .returned (.slice D q z) ∧ q ≤ 1000 ∧ Cx R w' g A n c k l ∧ OwI R.heap.size w' D q z L ∧ Nw w D ∧ w.grownBy w' (some g)
set_option maxHeartbeats 4000000 in
theorem series_any {R w : World} {g n c k : Nat} {A : Option Addr} {l : List Int} (h : Cx R w g A n c k l) (hk : k ≤ 1000000000) :
    Calls Try.prog 91 #[.pointer (some ⟨g, 0, none⟩)] w (RetDI R w g A n c (k + 1000) l) := by
  have hgw := h.cur.lt
  go_enter Try.func91, Try.ntmps91
  go_wp2_with fail
  refine (pick_cx h 9 (by omega) (by omega) (by omega)).mono ?_
  rintro e w1 ⟨r1, ⟨hr0, hr1⟩, rfl, hC1, hg1⟩
  have h1 := h.grow hC1 hg1
  go_wp2_with fail
  refine (one_cx h1 20 (by omega) (by omega) (by omega)).mono ?_
  rintro e w2 ⟨b, rfl, hC2, hg2⟩
  have h2 := h1.grow hC2 hg2
  have g2 := hg1.trans hg2
  have hX2 : ∀ (N : Nat) (w3 : World), N ≤ 61 → True := fun _ _ _ => trivial
  clear hX2
  cases b
  · obtain ⟨N, hN⟩ : ∃ N : Nat, 1 + r1 = N := ⟨(1 + r1).toNat, by omega⟩
    have hN61 : N ≤ 61 := by omega
    have h3 : Cx R w2 g A n c (k + 6) l := h2.mono (by omega)
    have g3 := g2
    go_wp2_with fail
    clear hN h1 h2 hC1 hC2 g2
    go_loopw [3] (fun v wr => ∃ (q : Nat) (D : Option Addr) (z : Nat) (L : List Int), q ≤ N ∧ v = .slice D q z ∧ Cx R wr g A n c (k + 6 + 4 * q) l ∧ OwI R.heap.size wr D q z L ∧ Nw w D ∧ w.grownBy wr (some g)) (fun v _ => match v with | .slice _ q _ => N - q | _ => 0)
    case atStart => exact ⟨0, none, 0, [], by omega, rfl, h3.mono (by omega), OwI.nil_, Nw.nil_, g3⟩
    case round =>
      clear h3 g3
      obtain ⟨q, D, z, L, hq, rfl, hX, oD, hN, hG⟩ := hrel
      have hgl := hX.cur.lt
      have hsz := hG.size
      by_cases hlt : q < N
      · have hltI : (q : Int) < N := by omega
        go_wp2_with fail
        refine (pick_cx hX 80 (by omega) (by omega) (by omega)).mono ?_
        rintro e w4 ⟨r4, ⟨ha0, ha1⟩, rfl, hC4, hg4⟩
        have h4 := hX.grow hC4 hg4
        have o4 := oD.kept hg4 (hN.ne hgw)
        have hgl4 := h4.cur.lt
        go_wp2_with fail
        refine (among_cx (h4.below (bAlloc (Below.refl _ w4) _)) 8 8 [-3, -1, 0, 0, 1, 2, 5, r4 - 40] (by omega) (int_lit [-3, -1, 0, 0, 1, 2, 5, r4 - 40] (by simp [maxLen]) _ rfl) hgl4 (by omega) (by omega)).mono ?_
        rintro e w5 ⟨v5, hv5, rfl, hC5, hg5⟩
        have h5 := (h4.below (bAlloc (Below.refl _ w4) _)).grow hC5 hg5
        have o5 := (o4.below (bAlloc (Below.refl _ w4) _)).kept hg5 (hN.ne hgw)
        have hB5 := h5.bel
        have hqb : q ≤ 1099511627776 := by omega
        have g5 := (hG.trans hg4).trans ((World.grownBy_alloc w4 _ _).trans hg5)
        have hsz5 := g5.size
        clear hv5
        go_wp2_with ((at_builtin; (refine wpl_push_int R _ _ _ ?_ rfl _ _ rfl D q z _ rfl o5 ?_ ?_ rfl hqb ?_); (focus (first | rfl | (simp; done))); (focus (repeat (first | exact Below.refl _ _ | assumption | refine bExt ?_ _ | refine bAlloc ?_ _ | refine bDrewN ?_ _ | refine bDrew ?_ | refine bSet ?_ (by first | exact Nat.le_refl _ | omega | (simp; done) | (simp; omega)) _))); (focus (repeat (first | exact Below.refl _ _ | assumption | refine bExt ?_ _ | refine bAlloc ?_ _ | refine bDrewN ?_ _ | refine bDrew ?_ | refine bSet ?_ (by first | exact Nat.le_refl _ | omega | (simp; done) | (simp; omega)) _))); intro D' z' y6 o6 hga hda))
        have hN' := hN.push hsz5 hda
        have h6 := h5.row hga (hN.ne' hgw) (fun b hb => (o5.blk hb).1)
        have g6 := grown_new g5 hga hN
        go_roundw
        case rel => exact ⟨q + 1, D', z', L ++ [v5], by omega, rfl, h6.mono (by omega), o6, hN', g6⟩
        case measure => simp; omega
      · obtain rfl : q = N := by omega
        by_cases hq0 : q = 0
        · subst hq0
          go_wp2
          go_ret
          exact ⟨D, 0, z, L, rfl, by omega, hX.mono (by omega), oD, hN, hG⟩
        · have hqI : (0 : Int) < q := by omega
          have hqN : 0 < q := by omega
          go_wp2_with fail
          refine (one_cx hX 24 (by omega) (by omega) (by omega)).mono ?_
          rintro e w4 ⟨b4, rfl, hC4, hg4⟩
          have h4 := hX.grow hC4 hg4
          have o4 := oD.kept hg4 (hN.ne hgw)
          have g4 := hG.trans hg4
          cases b4
          · go_wp2
            go_ret
            exact ⟨D, q, z, L, rfl, by omega, h4.mono (by omega), o4, hN, g4⟩
          · go_wp2_with fail
            refine (pick_cx h4 q (by omega) (by omega) (by omega)).mono ?_
            rintro e w5 ⟨r5, ⟨hb0, hb1⟩, rfl, hC5, hg5⟩
            have h5 := h4.grow hC5 hg5
            have o5 := o4.kept hg5 (hN.ne hgw)
            have hgl5 := h5.cur.lt
            go_wp2_with fail
            refine (among_cx (h5.below (bAlloc (Below.refl _ w5) _)) 4 4 [-100001, -100000, 100000, 100001] (by omega) (int_lit [-100001, -100000, 100000, 100001] (by simp [maxLen]) _ rfl) hgl5 (by omega) (by omega)).mono ?_
            rintro e w6 ⟨v6, hv6, rfl, hC6, hg6⟩
            have h6 := (h5.below (bAlloc (Below.refl _ w5) _)).grow hC6 hg6
            have o6 := (o5.below (bAlloc (Below.refl _ w5) _)).kept hg6 (hN.ne hgw)
            have g6 := (g4.trans hg5).trans ((World.grownBy_alloc w5 _ _).trans hg6)
            obtain ⟨i, rfl⟩ : ∃ i : Nat, r5 = i := ⟨r5.toNat, by omega⟩
            obtain ⟨bD, rfl, hbD1, hbD2⟩ := o6.form_ (by omega)
            have hc6 := o6.cell_ i (by omega)
            have hf6 := o6.frozen_ i
            have hst := o6.stored_ i v6
            have hiI : (i : Int) < q := by omega
            clear hv6
            go_wp2
            go_ret
            refine ⟨_, q, z, _, rfl, by omega, (h6.row hst.2 (hN.ne' hgw) (fun b hb => by injection hb with hb; omega)).mono (by omega), hst.1, hN, ?_⟩
            exact grown_new (D := some ⟨bD, 0, none⟩) g6 hst.2 hN
  · go_wp2_with fail
    refine (among_cx (h2.below (bAlloc (Below.refl _ w2) _)) 3 3 [0, 60, 61] (by omega) (int_lit [0, 60, 61] (by simp [maxLen]) _ rfl) h2.cur.lt (by omega) (by omega)).mono ?_
    rintro e w3 ⟨v3, hv3, rfl, hC3, hg3⟩
    have h3 := (h2.below (bAlloc (Below.refl _ w2) _)).grow hC3 hg3
    have g3 := g2.trans ((World.grownBy_alloc w2 _ _).trans hg3)
    obtain ⟨N, rfl⟩ : ∃ N : Nat, v3 = N := ⟨v3.toNat, by simp at hv3; omega⟩
    have hN61 : N ≤ 61 := by simp at hv3; omega
    clear hv3 h1 h2 hC1 hC2 g2 hg3
    go_wp2_with fail
    go_loopw [3] (fun v wr => ∃ (q : Nat) (D : Option Addr) (z : Nat) (L : List Int), q ≤ N ∧ v = .slice D q z ∧ Cx R wr g A n c (k + 6 + 4 * q) l ∧ OwI R.heap.size wr D q z L ∧ Nw w D ∧ w.grownBy wr (some g)) (fun v _ => match v with | .slice _ q _ => N - q | _ => 0)
    case atStart => exact ⟨0, none, 0, [], by omega, rfl, h3.mono (by omega), OwI.nil_, Nw.nil_, g3⟩
    case round =>
      clear h3 g3
      obtain ⟨q, D, z, L, hq, rfl, hX, oD, hN, hG⟩ := hrel
      have hgl := hX.cur.lt
      have hsz := hG.size
      by_cases hlt : q < N
      · have hltI : (q : Int) < N := by omega
        go_wp2_with fail
        refine (pick_cx hX 80 (by omega) (by omega) (by omega)).mono ?_
        rintro e w4 ⟨r4, ⟨ha0, ha1⟩, rfl, hC4, hg4⟩
        have h4 := hX.grow hC4 hg4
        have o4 := oD.kept hg4 (hN.ne hgw)
        have hgl4 := h4.cur.lt
        go_wp2_with fail
        refine (among_cx (h4.below (bAlloc (Below.refl _ w4) _)) 8 8 [-3, -1, 0, 0, 1, 2, 5, r4 - 40] (by omega) (int_lit [-3, -1, 0, 0, 1, 2, 5, r4 - 40] (by simp [maxLen]) _ rfl) hgl4 (by omega) (by omega)).mono ?_
        rintro e w5 ⟨v5, hv5, rfl, hC5, hg5⟩
        have h5 := (h4.below (bAlloc (Below.refl _ w4) _)).grow hC5 hg5
        have o5 := (o4.below (bAlloc (Below.refl _ w4) _)).kept hg5 (hN.ne hgw)
        have hB5 := h5.bel
        have hqb : q ≤ 1099511627776 := by omega
        have g5 := (hG.trans hg4).trans ((World.grownBy_alloc w4 _ _).trans hg5)
        have hsz5 := g5.size
        clear hv5
        go_wp2_with ((at_builtin; (refine wpl_push_int R _ _ _ ?_ rfl _ _ rfl D q z _ rfl o5 ?_ ?_ rfl hqb ?_); (focus (first | rfl | (simp; done))); (focus (repeat (first | exact Below.refl _ _ | assumption | refine bExt ?_ _ | refine bAlloc ?_ _ | refine bDrewN ?_ _ | refine bDrew ?_ | refine bSet ?_ (by first | exact Nat.le_refl _ | omega | (simp; done) | (simp; omega)) _))); (focus (repeat (first | exact Below.refl _ _ | assumption | refine bExt ?_ _ | refine bAlloc ?_ _ | refine bDrewN ?_ _ | refine bDrew ?_ | refine bSet ?_ (by first | exact Nat.le_refl _ | omega | (simp; done) | (simp; omega)) _))); intro D' z' y6 o6 hga hda))
        have hN' := hN.push hsz5 hda
        have h6 := h5.row hga (hN.ne' hgw) (fun b hb => (o5.blk hb).1)
        have g6 := grown_new g5 hga hN
        go_roundw
        case rel => exact ⟨q + 1, D', z', L ++ [v5], by omega, rfl, h6.mono (by omega), o6, hN', g6⟩
        case measure => simp; omega
      · obtain rfl : q = N := by omega
        by_cases hq0 : q = 0
        · subst hq0
          go_wp2
          go_ret
          exact ⟨D, 0, z, L, rfl, by omega, hX.mono (by omega), oD, hN, hG⟩
        · have hqI : (0 : Int) < q := by omega
          have hqN : 0 < q := by omega
          go_wp2_with fail
          refine (one_cx hX 24 (by omega) (by omega) (by omega)).mono ?_
          rintro e w4 ⟨b4, rfl, hC4, hg4⟩
          have h4 := hX.grow hC4 hg4
          have o4 := oD.kept hg4 (hN.ne hgw)
          have g4 := hG.trans hg4
          cases b4
          · go_wp2
            go_ret
            exact ⟨D, q, z, L, rfl, by omega, h4.mono (by omega), o4, hN, g4⟩
          · go_wp2_with fail
            refine (pick_cx h4 q (by omega) (by omega) (by omega)).mono ?_
            rintro e w5 ⟨r5, ⟨hb0, hb1⟩, rfl, hC5, hg5⟩
            have h5 := h4.grow hC5 hg5
            have o5 := o4.kept hg5 (hN.ne hgw)
            have hgl5 := h5.cur.lt
            go_wp2_with fail
            refine (among_cx (h5.below (bAlloc (Below.refl _ w5) _)) 4 4 [-100001, -100000, 100000, 100001] (by omega) (int_lit [-100001, -100000, 100000, 100001] (by simp [maxLen]) _ rfl) hgl5 (by omega) (by omega)).mono ?_
            rintro e w6 ⟨v6, hv6, rfl, hC6, hg6⟩
            have h6 := (h5.below (bAlloc (Below.refl _ w5) _)).grow hC6 hg6
            have o6 := (o5.below (bAlloc (Below.refl _ w5) _)).kept hg6 (hN.ne hgw)
            have g6 := (g4.trans hg5).trans ((World.grownBy_alloc w5 _ _).trans hg6)
            obtain ⟨i, rfl⟩ : ∃ i : Nat, r5 = i := ⟨r5.toNat, by omega⟩
            obtain ⟨bD, rfl, hbD1, hbD2⟩ := o6.form_ (by omega)
            have hc6 := o6.cell_ i (by omega)
            have hf6 := o6.frozen_ i
            have hst := o6.stored_ i v6
            have hiI : (i : Int) < q := by omega
            clear hv6
            go_wp2
            go_ret
            refine ⟨_, q, z, _, rfl, by omega, (h6.row hst.2 (hN.ne' hgw) (fun b hb => by injection hb with hb; omega)).mono (by omega), hst.1, hN, ?_⟩
            exact grown_new (D := some ⟨bD, 0, none⟩) g6 hst.2 hN
end Go.Proofs.Ytppcmnolkbobfaa
