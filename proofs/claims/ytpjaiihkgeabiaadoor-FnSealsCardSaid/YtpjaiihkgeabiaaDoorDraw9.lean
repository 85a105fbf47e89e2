/- What the reference draws for the laws on times: slots and a day. Conditions: none. -/
import Derived.Test.YtpjaiihkgeabiaaDoorDraw6
import Derived.Test.YtpjaiihkgeabiaaDoorSlots
import Derived.Deep.DeepCutAuto
import Derived.Deep.CutBlock
set_option linter.unusedVariables false
set_option linter.unusedSimpArgs false
set_option maxRecDepth 100000
namespace Go.Proofs.YtpjaiihkgeabiaaDoor
open Go.RowKit
section
variable {ops : Array Oper} {rest : List Oper} {o : Oper} {a : Act} {Q : Exit → Act → World → Prop}
/-- append(s, v): one slot onto a row of the call's own. R: the world of reference, W: the world before the block of v was made. -/
theorem wpl_push_slot (R W : World) (u v : Int) (gx : Nat) (hgx : gx = W.heap.size) (hgd : o.guard = none) (s x : Operand) (ho : o.op = .call { callee := .builtin .append, args := #[s, x], argTypes := #[51, 51] })
    (A : Option Addr) (n c : Nat) (l : List (Int × Int)) (hs : a.eval s = .slice A n c) {W₀ : World} (hown₀ : OwS R.heap.size W₀ A n c l) (hW₀ : Below W₀.heap.size W₀ W) (hR : Below R.heap.size R W)
    (hx : a.eval x = .slice (some ⟨gx, 0, none⟩) 1 1) (hn : n ≤ 1099511627776)
    (h : ∀ A' c' y, OwS R.heap.size (ext R y) A' (n + 1) c' (l ++ [(u, v)]) → W.grownBy (ext R y) (blkOf A) → (blkOf A' = blkOf A ∨ ∃ g, blkOf A' = some g ∧ W.heap.size < g) → wpList Tryd.prog ops Q rest (a.put o.dst (.slice A' (n + 1) c')) (ext R y)) :
    wpList Tryd.prog ops Q (o :: rest) a (W.alloc (.cells #[.int .i64 u, .int .i64 v] 110)) := by
  subst hgx
  have hown := hown₀.below hW₀
  obtain ⟨i0, hi0, hz0, hz1, hz2⟩ := info_parts slot_info
  have hRw : Below R.heap.size R (W.alloc (.cells #[.int .i64 u, .int .i64 v] 110)) := bAlloc hR _
  have hown1 := hown.below (bAlloc (Below.refl W.heap.size W) (.cells #[.int .i64 u, .int .i64 v] 110))
  refine wpList_append_own_at _ hgd s x _ ho R.heap.size 110 i0 (.agg #[.int .i64 0, .int .i64 0]) 2 16 Tryd.underlying51 hi0 hz0 hz1 hz2 rfl (by omega) (.slice A n c) n (slotCells l) hs hown1
    ⟨W.heap.size, 0, none⟩ 1 1 [.int .i64 u, .int .i64 v] hx rfl ?_ (by simp [Value.oneCell']) (by simp only [maxLen]; omega) (by omega) hRw.size ?_
  · intro j z hz
    match j with
    | 0 => simp at hz; subst hz; simp [Addr.add, go_sem]
    | 1 => simp at hz; subst hz; simp [Addr.add, go_sem]
    | j + 2 => simp at hz
  · intro v' w' hown' hg _ hd
    rw [ownBlock_slice] at hg hd
    have hBw : Below R.heap.size R w' := below_grown hRw hg (fun k hk => (hown1.blk hk).1)
    obtain ⟨y, rfl⟩ := ext_ex hBw
    rcases hown'.2 with ⟨_, h0⟩ | ⟨g', cap, cur, rfl, hrest⟩
    · omega
    · rw [ownBlock_slice] at hd
      refine h _ _ y ?_ ((World.grownBy_alloc W _ _).trans hg) ?_
      · have : slotCells (l ++ [(u, v)]) = slotCells l ++ [.int .i64 u, .int .i64 v] := by simp [slotCells]
        unfold OwS Ow
        rw [this]
        exact hown'
      · rcases hd with hd | hd
        · exact .inl hd
        · exact .inr ⟨_, hd, by simp⟩
end
theorem OwS.set0_ {base n c g : Nat} {w : World} {l : List (Int × Int)} (h : OwS base w (some ⟨g, 0, none⟩) n c l) (k : Nat) (hk : k < n) (a : Int) :
    OwS base (w.setCell ⟨g, k * 2, none⟩ (.int .i64 a)) (some ⟨g, 0, none⟩) n c (l.set k (a, (l[k]?.getD (0, 0)).2)) ∧ w.grownBy (w.setCell ⟨g, k * 2, none⟩ (.int .i64 a)) (some g) := by
  have h1 := Ow.stored_ h (k * 2) (.int .i64 a)
  refine ⟨?_, h1.2⟩
  have hl := h.len
  have h2 := slotCells_get1 l k (by omega)
  have e : (slotCells l).set (k * 2) (.int .i64 a) = slotCells (l.set k (a, (l[k]?.getD (0, 0)).2)) := by
    rw [← slotCells_set l k a _ (by omega)]
    refine List.ext_getElem? fun i => ?_
    by_cases hi : i = k * 2 + 1
    · subst hi
      rw [List.getElem?_set_ne (by omega), h2, List.getElem?_set_self (by simp [slotCells_len]; omega)]
    · rw [List.getElem?_set_ne (show k * 2 + 1 ≠ i by omega)]
  unfold OwS
  rw [← e]
  exact h1.1
theorem OwS.set1_ {base n c g : Nat} {w : World} {l : List (Int × Int)} (h : OwS base w (some ⟨g, 0, none⟩) n c l) (k : Nat) (hk : k < n) (b : Int) :
    OwS base (w.setCell ⟨g, k * 2 + 1, none⟩ (.int .i64 b)) (some ⟨g, 0, none⟩) n c (l.set k ((l[k]?.getD (0, 0)).1, b)) ∧ w.grownBy (w.setCell ⟨g, k * 2 + 1, none⟩ (.int .i64 b)) (some g) := by
  have h1 := Ow.stored_ h (k * 2 + 1) (.int .i64 b)
  refine ⟨?_, h1.2⟩
  have hl := h.len
  have h2 := slotCells_get0 l k (by omega)
  have e : (slotCells l).set (k * 2 + 1) (.int .i64 b) = slotCells (l.set k ((l[k]?.getD (0, 0)).1, b)) := by
    rw [← slotCells_set l k _ b (by omega)]
    refine List.ext_getElem? fun i => ?_
    by_cases hi : i = k * 2
    · subst hi
      rw [List.getElem?_set_ne (by omega), h2, List.getElem?_set_ne (by omega), List.getElem?_set_self (by simp [slotCells_len]; omega)]
    · by_cases hi1 : i = k * 2 + 1
      · subst hi1
        rw [List.getElem?_set_self (by rw [slotCells_len]; omega), List.getElem?_set_self (by rw [List.length_set, slotCells_len]; omega)]
      · rw [List.getElem?_set_ne (show k * 2 + 1 ≠ i by omega), List.getElem?_set_ne (show k * 2 + 1 ≠ i by omega), List.getElem?_set_ne (show k * 2 ≠ i by omega)]
  unfold OwS
  rw [← e]
  exact h1.1
/-- What a function that draws slots from the cursor ends with. -/
def RetDS (R w : World) (g : Nat) (A : Option Addr) (n c k : Nat) (l : List Int) (e : Ending) (w' : World) : Prop := ∃ (D : Option Addr) (q z : Nat) (L : List (Int × Int)), e = .returned (.slice D q z) ∧ q ≤ 41 ∧ Cx R w' g A n c k l ∧ OwS R.heap.size w' D q z L ∧ Nw w D ∧ w.grownBy w' (some g)
set_option maxHeartbeats 4000000 in
theorem slots_any {R w : World} {g n c k : Nat} {A : Option Addr} {l : List Int} (h : Cx R w g A n c k l) (hk : k ≤ 1000000) :
    Calls Tryd.prog 71 #[.pointer (some ⟨g, 0, none⟩)] w (RetDS R w g A n c (k + 1000) l) := by
  have hgw := h.cur.lt
  go_enter Tryd.func71, Tryd.ntmps71
  go_wp2_with fail
  refine (pick_cx h 9 (by omega) (by omega) (by omega)).mono ?_
  rintro e w1 ⟨r1, ⟨hr0, hr1⟩, rfl, hC1, hg1⟩
  have h1 := h.grow hC1 hg1
  go_wp2_with fail
  refine (one_cx h1 20 (by omega) (by omega) (by omega)).mono ?_
  rintro e w2 ⟨b, rfl, hC2, hg2⟩
  have h2 := h1.grow hC2 hg2
  have g2 := hg1.trans hg2
  clear h1 hC1 hC2 hg1 hg2
  go_upto_if 10 with fail
  go_cut [4] (fun v wx => ∃ N : Nat, N ≤ 41 ∧ v = .int .i64 N ∧ Cx R wx g A n c (k + 6) l ∧ w.grownBy wx (some g))
  case first =>
    cases b
    · go_wp2
      go_meet
      exact ⟨(1 + r1).toNat, by omega, congrArg (Value.int .i64) (by omega), h2.mono (by omega), g2⟩
    · go_wp2_with fail
      refine (among_cx (h2.below (bAlloc (Below.refl _ w2) _)) 3 3 [0, 40, 41] (by omega) (int_lit [0, 40, 41] (by simp [maxLen]) _ rfl) h2.cur.lt (by omega) (by omega)).mono ?_
      rintro e w3 ⟨v3, hv3, rfl, hC3, hg3⟩
      have h3 := (h2.below (bAlloc (Below.refl _ w2) _)).grow hC3 hg3
      have g3 := g2.trans ((World.grownBy_alloc w2 _ _).trans hg3)
      have hv : 0 ≤ v3 ∧ v3 ≤ 41 := by simp at hv3; omega
      clear hv3
      go_wp2
      go_meet
      exact ⟨v3.toNat, by omega, congrArg (Value.int .i64) (by omega), h3.mono (by omega), g3⟩
  case rest =>
    clear h2 g2
    obtain ⟨N, hN41, rfl, h3, g3⟩ := hcut
    rename World => w3
    go_wp2_with fail
    go_loopw [3] (fun v wr => ∃ (q : Nat) (D : Option Addr) (z : Nat) (L : List (Int × Int)), q ≤ N ∧ v = .slice D q z ∧ Cx R wr g A n c (k + 6 + 6 * q) l ∧ OwS R.heap.size wr D q z L ∧ Nw w D ∧ w.grownBy wr (some g)) (fun v _ => match v with | .slice _ q _ => N - q | _ => 0)
    case atStart => exact ⟨0, none, 0, [], by omega, rfl, h3.mono (by omega), OwS.nil_, Nw.nil_, g3⟩
    case round =>
      clear h3 g3
      obtain ⟨q, D, z, L, hq, rfl, hX, oD, hN, hG⟩ := hrel
      have hgl := hX.cur.lt
      have hsz := hG.size
      by_cases hlt : q < N
      · have hltI : (q : Int) < N := by omega
        go_wp2_with fail
        refine (pick_cx hX 9 (by omega) (by omega) (by omega)).mono ?_
        rintro e w4 ⟨r4, ⟨ha0, ha1⟩, rfl, hC4, hg4⟩
        have h4 := hX.grow hC4 hg4
        have o4 := oD.kept hg4 (hN.ne hgw)
        go_wp2_with fail
        refine (pick_cx h4 200 (by omega) (by omega) (by omega)).mono ?_
        rintro e w5 ⟨r5, ⟨hb0, hb1⟩, rfl, hC5, hg5⟩
        have h5 := h4.grow hC5 hg5
        have o5 := o4.kept hg5 (hN.ne hgw)
        have hgl5 := h5.cur.lt
        go_wp2_with fail
        refine (among_cx (h5.below (bAlloc (Below.refl _ w5) _)) 5 5 [30, 160, 240, 300, 30 + r5] (by omega) (int_lit [30, 160, 240, 300, 30 + r5] (by simp [maxLen]) _ rfl) hgl5 (by omega) (by omega)).mono ?_
        rintro e w6 ⟨v6, hv6, rfl, hC6, hg6⟩
        have h6 := (h5.below (bAlloc (Below.refl _ w5) _)).grow hC6 hg6
        have o6 := (o5.below (bAlloc (Below.refl _ w5) _)).kept hg6 (hN.ne hgw)
        have hB6 := h6.bel
        have hqb : q ≤ 1099511627776 := by omega
        have g6 := ((hG.trans hg4).trans hg5).trans ((World.grownBy_alloc w5 _ _).trans hg6)
        have hsz6 := g6.size
        clear hv6
        go_wp2_with (at_builtin; (refine wpl_push_slot R _ _ _ _ ?_ rfl _ _ rfl D q z _ rfl o6 ?_ ?_ rfl hqb ?_); (focus (first | rfl | (simp; done))); (focus (repeat (first | exact Below.refl _ _ | assumption | refine bExt ?_ _ | refine bAlloc ?_ _ | refine bDrewN ?_ _ | refine bDrew ?_ | refine bSet ?_ (by first | exact Nat.le_refl _ | omega | (simp; done) | (simp; omega)) _))); (focus (repeat (first | exact Below.refl _ _ | assumption | refine bExt ?_ _ | refine bAlloc ?_ _ | refine bDrewN ?_ _ | refine bDrew ?_ | refine bSet ?_ (by first | exact Nat.le_refl _ | omega | (simp; done) | (simp; omega)) _))); intro D' z' y7 o7 hga hda)
        have hN' := hN.push hsz6 hda
        have h7 := h6.row hga (hN.ne' hgw) (fun b hb => (o6.blk hb).1)
        have g7 := grown_new g6 hga hN
        go_roundw
        case rel => exact ⟨q + 1, D', z', _, by omega, rfl, h7.mono (by omega), o7, hN', g7⟩
        case measure => simp; omega
      · obtain rfl : q = N := by omega
        by_cases hq0 : ¬ (0 : Int) < q
        · go_wp2
          go_ret
          exact ⟨D, q, z, L, rfl, by omega, hX.mono (by omega), oD, hN, hG⟩
        · have hqI : (0 : Int) < q := by omega
          have hqN : 0 < q := by omega
          go_wp2_with fail
          refine (pick_cx hX q (by omega) (by omega) (by omega)).mono ?_
          rintro e w4 ⟨r4, ⟨ha0, ha1⟩, rfl, hC4, hg4⟩
          have h4 := hX.grow hC4 hg4
          have o4 := oD.kept hg4 (hN.ne hgw)
          have g4 := hG.trans hg4
          obtain ⟨i, rfl⟩ : ∃ i : Nat, r4 = i := ⟨r4.toNat, by omega⟩
          obtain ⟨bD, rfl, hbD1, hbD2⟩ := o4.form_ (by omega)
          have hiI : (i : Int) < q := by omega
          go_wp2_with fail
          refine (pick_cx h4 24 (by omega) (by omega) (by omega)).mono ?_
          rintro e w5 ⟨r5, ⟨hb0, hb1⟩, rfl, hC5, hg5⟩
          have h5 := h4.grow hC5 hg5
          have o5 := o4.kept hg5 (hN.ne hgw)
          have g5 := g4.trans hg5
          have hgl5 := h5.cur.lt
          by_cases e0 : r5 = 0
          · subst e0
            have hc0 := (o5.cell_ 0 (by omega)).1
            rw [Nat.zero_mul] at hc0
            generalize (L[0]?.getD (0, 0)).1 = sk0 at hc0
            go_wp2_with fail
            refine (among_cx (h5.below (bAlloc (Below.refl _ w5) _)) 4 4 [0, 999, 1000, sk0] (by omega) (int_lit [0, 999, 1000, sk0] (by simp [maxLen]) _ rfl) hgl5 (by omega) (by omega)).mono ?_
            rintro e w6 ⟨v6, hv6, rfl, hC6, hg6⟩
            have h6 := (h5.below (bAlloc (Below.refl _ w5) _)).grow hC6 hg6
            have o6 := (o5.below (bAlloc (Below.refl _ w5) _)).kept hg6 (hN.ne hgw)
            have g6 := g5.trans ((World.grownBy_alloc w5 _ _).trans hg6)
            have hc6 := o6.cell_ i (by omega)
            have hf6 := o6.frozen_ (i * 2)
            have hst := o6.set0_ i (by omega) v6
            clear hv6
            go_wp2
            go_ret
            exact ⟨some ⟨bD, 0, none⟩, q, z, _, rfl, by omega, (h6.row hst.2 (hN.ne' hgw) (fun b hb => by injection hb with hb; omega)).mono (by omega), hst.1, hN, grown_new (D := some ⟨bD, 0, none⟩) g6 hst.2 hN⟩
          · by_cases e1 : r5 = 1
            · subst e1
              go_wp2_with fail
              refine (among_cx (h5.below (bAlloc (Below.refl _ w5) _)) 2 2 [29, 301] (by omega) (int_lit [29, 301] (by simp [maxLen]) _ rfl) hgl5 (by omega) (by omega)).mono ?_
              rintro e w6 ⟨v6, hv6, rfl, hC6, hg6⟩
              have h6 := (h5.below (bAlloc (Below.refl _ w5) _)).grow hC6 hg6
              have o6 := (o5.below (bAlloc (Below.refl _ w5) _)).kept hg6 (hN.ne hgw)
              have g6 := g5.trans ((World.grownBy_alloc w5 _ _).trans hg6)
              have hc6 := o6.cell_ i (by omega)
              have hf6 := o6.frozen_ (i * 2 + 1)
              have hst := o6.set1_ i (by omega) v6
              clear hv6
              go_wp2
              go_ret
              exact ⟨some ⟨bD, 0, none⟩, q, z, _, rfl, by omega, (h6.row hst.2 (hN.ne' hgw) (fun b hb => by injection hb with hb; omega)).mono (by omega), hst.1, hN, grown_new (D := some ⟨bD, 0, none⟩) g6 hst.2 hN⟩
            · go_wp2
              go_ret
              exact ⟨some ⟨bD, 0, none⟩, q, z, L, rfl, by omega, h5.mono (by omega), o5, hN, g5⟩
end Go.Proofs.YtpjaiihkgeabiaaDoor
