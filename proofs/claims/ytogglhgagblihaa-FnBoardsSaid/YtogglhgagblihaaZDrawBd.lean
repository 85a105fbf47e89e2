/- What the reference draws for the laws on boards: scores for slots. Conditions: none. -/
import Derived.Test.YtogglhgagblihaaZDraw10
import Derived.Test.YtogglhgagblihaaZDraw12
import Derived.Test.YtogglhgagblihaaZCues3
set_option linter.unusedVariables false
set_option linter.unusedSimpArgs false
set_option maxRecDepth 100000
namespace Go.Proofs.Ytogglhgagblihaa
open Go.RowKit
/-- What a function that draws a slice of ints from the cursor ends with. -/
def RetDL (R w : World) (g : Nat) (A : Option Addr) (n c k : Nat) (l : List Int) (e : Ending) (w' : World) : Prop := ∃ (D : Option Addr) (q z : Nat) (L : List Int), e = .returned (.slice D q z) ∧ q ≤ 1000 ∧ Cx R w' g A n c k l ∧ OwI R.heap.size w' D q z L ∧ Nw w D ∧ w.grownBy w' (some g)
set_option maxHeartbeats 4000000 in
theorem scoresOf_any {R w : World} {g n c k : Nat} {A : Option Addr} {l : List Int} (h : Cx R w g A n c k l) (hk : k ≤ 1000000) (N : Nat) (hN : N ≤ 41) :
    Calls Try.prog 81 #[.pointer (some ⟨g, 0, none⟩), .int .i64 N] w (RetDL R w g A n c (k + 1000) l) := by
  have hgw := h.cur.lt
  go_enter Try.func81, Try.ntmps81
  go_wp2_with fail
  go_loopw [1, 5] (fun nv v wr => ∃ (q : Nat) (D : Option Addr) (z : Nat) (L : List Int), q ≤ N ∧ nv = .int .i64 ((N - q : Nat) : Int) ∧ v = .slice D q z ∧ Cx R wr g A n c (k + 4 * q) l ∧ OwI R.heap.size wr D q z L ∧ Nw w D ∧ w.grownBy wr (some g)) (fun nv _ _ => (intOf nv).toNat)
  case atStart => exact ⟨0, none, 0, [], by omega, rfl, rfl, h, OwI.nil_, Nw.nil_, World.grownBy.refl _ _⟩
  case round =>
    clear h
    obtain ⟨q, D, z, L, hq, rfl, rfl, hX, oD, hNw, hG⟩ := hrel
    have hgl := hX.cur.lt
    have hsz := hG.size
    by_cases hlt : q < N
    · obtain ⟨m, hm1, hm2⟩ : ∃ m : Nat, N - q = m + 1 ∧ m = N - (q + 1) := ⟨N - (q + 1), by omega, rfl⟩
      rw [hm1]
      have hmI : (0 : Int) < ((m + 1 : Nat) : Int) := by omega
      have hm40 : m ≤ 41 := by omega
      have Hm := Lib.hid hm2
      clear hm1 hm2
      go_wp2_with fail
      refine (pick_cx hX 60000 (by omega) (by omega) (by omega)).mono ?_
      intro e w4 hp
      obtain ⟨r4, ⟨ha0, ha1⟩, rfl, h4, g4⟩ := hX.pick hp
      have o4 := oD.kept g4 (hNw.ne hgw)
      go_wp2_with fail
      refine (among_lit h4 (by omega) [0, 5000, 6000, 6000, 6500, 7000, r4] 7 _ rfl rfl (by omega) (by omega) _ rfl 7).mono ?_
      rintro e w5 ⟨v5, hv5, rfl, h5, g5⟩
      have o5 := o4.kept g5 (hNw.ne hgw)
      have hB5 := h5.bel
      have hqb : q ≤ 1099511627776 := by omega
      have G5 := (hG.trans g4).trans g5
      have hsz5 := G5.size
      clear hv5 hp
      go_wp2_with ((at_builtin; (refine wpl_push_int R _ _ _ ?_ rfl _ _ rfl D q z _ rfl o5 ?_ ?_ rfl hqb ?_); (focus (first | rfl | (simp; done))); (focus (repeat (first | exact Below.refl _ _ | assumption | refine bExt ?_ _ | refine bAlloc ?_ _ | refine bDrewN ?_ _ | refine bDrew ?_ | refine bSet ?_ (by first | exact Nat.le_refl _ | omega | (simp; done) | (simp; omega)) _))); (focus (repeat (first | exact Below.refl _ _ | assumption | refine bExt ?_ _ | refine bAlloc ?_ _ | refine bDrewN ?_ _ | refine bDrew ?_ | refine bSet ?_ (by first | exact Nat.le_refl _ | omega | (simp; done) | (simp; omega)) _))); intro D' z' y6 o6 hga hda))
      have hN' := hNw.push hsz5 hda
      have h6 := h5.row hga (hNw.ne' hgw) (fun b hb => (o5.blk hb).1)
      have g6 := grown_new G5 hga hNw
      go_roundw
      case rel => exact ⟨q + 1, D', z', L ++ [v5], by omega, by first | (have := Hm.out; subst this; go_num) | (have := Hm.out; exact congrArg (Value.int .i64) (by omega)), rfl, h6.mono (by omega), o6, hN', g6⟩
      case measure => simp [intOf]
    · obtain rfl : q = N := by omega
      have hz0 : ((q - q : Nat) : Int) = 0 := by omega
      rw [hz0]
      clear hz0
      by_cases hq0 : q = 0
      · subst hq0
        go_wp2
        go_ret
        exact ⟨D, 0, z, L, rfl, by omega, hX.mono (by omega), oD, hNw, hG⟩
      · have hqI : (0 : Int) < q := by omega
        have hqN : 0 < q := by omega
        go_wp2_with fail
        refine (pick_cx hX 24 (by omega) (by omega) (by omega)).mono ?_
        intro e w4 hp
        obtain ⟨r4, ⟨ha0, ha1⟩, rfl, h4, g4⟩ := hX.pick hp
        have o4 := oD.kept g4 (hNw.ne hgw)
        have G4 := hG.trans g4
        clear hp
        by_cases e0 : r4 = 0
        · subst e0
          go_wp2_with fail
          refine (among_lit h4 (by omega) [-1, 100000, 100001] 3 _ rfl rfl (by omega) (by omega) _ rfl 3).mono ?_
          rintro e w5 ⟨v5, hv5, rfl, h5, g5⟩
          have o5 := o4.kept g5 (hNw.ne hgw)
          have G5 := G4.trans g5
          obtain ⟨bD, rfl, hbD1, hbD2⟩ := o5.form_ (by omega)
          have hc5 := o5.cell_ 0 (by omega)
          have hf5 := o5.frozen_ 0
          have hst := o5.stored_ 0 v5
          clear hv5
          go_wp2
          go_ret
          exact ⟨_, q, z, _, rfl, by omega, (h5.row hst.2 (hNw.ne' hgw) (fun b hb => by injection hb with hb; omega)).mono (by omega), hst.1, hNw, grown_new (D := some ⟨bD, 0, none⟩) G5 hst.2 hNw⟩
        · by_cases e1 : r4 = 1
          · subst e1
            have hB4 := h4.bel
            have hqb : q ≤ 1099511627776 := by omega
            have hsz4 := G4.size
            go_wp2_with ((at_builtin; (refine wpl_push_int R _ _ _ ?_ rfl _ _ rfl D q z _ rfl o4 ?_ ?_ rfl hqb ?_); (focus (first | rfl | (simp; done))); (focus (repeat (first | exact Below.refl _ _ | assumption | refine bExt ?_ _ | refine bAlloc ?_ _ | refine bDrewN ?_ _ | refine bDrew ?_ | refine bSet ?_ (by first | exact Nat.le_refl _ | omega | (simp; done) | (simp; omega)) _))); (focus (repeat (first | exact Below.refl _ _ | assumption | refine bExt ?_ _ | refine bAlloc ?_ _ | refine bDrewN ?_ _ | refine bDrew ?_ | refine bSet ?_ (by first | exact Nat.le_refl _ | omega | (simp; done) | (simp; omega)) _))); intro D' z' y6 o6 hga hda))
            have hN' := hNw.push hsz4 hda
            have h6 := h4.row hga (hNw.ne' hgw) (fun b hb => (o4.blk hb).1)
            have g6 := grown_new G4 hga hNw
            go_ret
            exact ⟨D', q + 1, z', _, rfl, by omega, h6.mono (by omega), o6, hN', g6⟩
          · go_wp2
            go_ret
            exact ⟨D, q, z, L, rfl, by omega, h4.mono (by omega), o4, hNw, G4⟩
end Go.Proofs.Ytogglhgagblihaa
namespace Go.Proofs.Ytogglhgagblihaa
open Go.RowKit
def RetCk (R w : World) (g : Nat) (A : Option Addr) (n c k : Nat) (l : List Int) (e : Ending) (w' : World) : Prop := ∃ t : Int, e = .returned (.int .i64 t) ∧ Cx R w' g A n c k l ∧ w.grownBy w' (some g)
/-- The cursor, what has changed since w, and the cues' row. -/
def CkS (R w W : World) (g : Nat) (A : Option Addr) (n c k : Nat) (l : List Int) (b m : Nat) (T : List T3) : Prop := Cx R W g A n c k l ∧ w.grownBy W (some g) ∧ b < W.heap.size ∧ ∀ j : Nat, j < m → W.cell? ⟨b, j * 3, none⟩ = some (.int .i64 (T[j]?.getD z3).1)
theorem CkS.grow {R w W W' : World} {g : Nat} {A : Option Addr} {n c k k' : Nat} {l : List Int} {b m : Nat} {T : List T3} (h : CkS R w W g A n c k l b m T) (hX : Cx R W' g A n c k' l) (hg : W.grownBy W' (some g)) (hne : b ≠ g) : CkS R w W' g A n c k' l b m T :=
  ⟨hX, h.2.1.trans hg, Nat.lt_of_lt_of_le h.2.2.1 hg.size, fun j hj => hg.cell (a := ⟨b, j * 3, none⟩) (h.2.2.2 j hj) (fun e => hne (by injection e))⟩
theorem CkS.lt {R w W : World} {g : Nat} {A : Option Addr} {n c k : Nat} {l : List Int} {b m : Nat} {T : List T3} (h : CkS R w W g A n c k l b m T) : b < W.heap.size := h.2.2.1
theorem CkS.drew {R w W : World} {g : Nat} {A : Option Addr} {n c k : Nat} {l : List Int} {b m : Nat} {T : List T3} (h : CkS R w W g A n c k l b m T) : CkS R w W.drew g A n c k l b m T :=
  ⟨h.1.below (bDrew (Below.refl _ _)), h.2.1.trans (grownBy_of_below (row := some g) (bDrew (Below.refl _ _))), h.2.2.1, h.2.2.2⟩
theorem CkS.cells {R w W : World} {g : Nat} {A : Option Addr} {n c k : Nat} {l : List Int} {b m : Nat} {T : List T3} (h : CkS R w W g A n c k l b m T) : ∀ j : Nat, j < m → W.cell? ⟨b, j * 3, none⟩ = some (.int .i64 (T[j]?.getD z3).1) := h.2.2.2
/-- The same, and a literal list of five. -/
def CkL (R w W : World) (g : Nat) (A : Option Addr) (n c k : Nat) (l : List Int) (b m : Nat) (T : List T3) (x : Nat) : Prop := CkS R w W g A n c k l b m T ∧ RdI W (some ⟨x, 0, none⟩) 5 [0, 0, -1, 1, 20] ∧ (∃ base cap, OwI base W (some ⟨x, 0, none⟩) 5 cap [0, 0, -1, 1, 20]) ∧ g < x
theorem CkL.cells {R w W : World} {g : Nat} {A : Option Addr} {n c k : Nat} {l : List Int} {b m : Nat} {T : List T3} {x : Nat} (h : CkL R w W g A n c k l b m T x) : ∀ j : Nat, j < m → W.cell? ⟨b, j * 3, none⟩ = some (.int .i64 (T[j]?.getD z3).1) := h.1.2.2.2
theorem CkL.mk2 {R w W : World} {g : Nat} {A : Option Addr} {n c k : Nat} {l : List Int} {b m : Nat} {T : List T3} (h : CkS R w W g A n c k l b m T) : CkL R w (W.alloc (.cells #[.int .i64 0, .int .i64 0, .int .i64 (-1), .int .i64 1, .int .i64 20] 3)) g A n c k l b m T W.heap.size := by
  have hB := bAlloc (Below.refl W.heap.size W) (.cells #[.int .i64 0, .int .i64 0, .int .i64 (-1), .int .i64 1, .int .i64 20] 3)
  have hO := OwI.lit_ (Below.refl _ W) [0, 0, -1, 1, 20] (by simp [maxLen]) #[.int .i64 0, .int .i64 0, .int .i64 (-1), .int .i64 1, .int .i64 20] rfl
  exact ⟨⟨h.1.below hB, h.2.1.trans (grownBy_of_below (row := some g) hB), Nat.lt_of_lt_of_le h.2.2.1 hB.size, fun j hj => (hB.cell (p := ⟨b, j * 3, none⟩) h.2.2.1).trans (h.2.2.2 j hj)⟩, hO.rd, ⟨_, _, hO⟩, h.1.cur.lt⟩
theorem CkL.mk_ {R w W : World} {g : Nat} {A : Option Addr} {n c k : Nat} {l : List Int} {b m : Nat} {T : List T3} (h : CkS R w W g A n c k l b m T) : CkL R w ((W.alloc (.cells #[.int .i64 0, .int .i64 0, .int .i64 (-1), .int .i64 1, .int .i64 20] 3)).drew) g A n c k l b m T W.heap.size := by
  obtain ⟨h1, _, ⟨base, cap, ho⟩, hg⟩ := CkL.mk2 h
  have ho' := ho.below (bDrew (Below.refl _ _))
  exact ⟨h1.drew, ho'.rd, ⟨base, cap, ho'⟩, hg⟩
def RetCq (R w : World) (g : Nat) (A : Option Addr) (n c k : Nat) (l : List Int) (b m : Nat) (T : List T3) (e : Ending) (w' : World) : Prop := ∃ r : Nat, r < m ∧ e = .returned (.int .i64 r) ∧ CkS R w w' g A n c k l b m T
theorem ckS_pick {R w W : World} {g : Nat} {A : Option Addr} {n c k : Nat} {l : List Int} {b m : Nat} {T : List T3} (h : CkS R w W g A n c k l b m T) (hk : k ≤ 1000000) (hm1 : 1 ≤ m) (hm2 : m ≤ 1000) (hne : b ≠ g) :
    Calls Try.prog 67 #[.pointer (some ⟨g, 0, none⟩), .int .i64 m] W (RetCq R w g A n c (k + 2) l b m T) := by
  refine (pick_cx h.1 m (by omega) (by omega) (by omega)).mono ?_
  intro e w' hp
  obtain ⟨r, ⟨h0, h1⟩, rfl, hX, hg⟩ := h.1.pick hp
  obtain ⟨i, rfl⟩ : ∃ i : Nat, r = i := ⟨r.toNat, by omega⟩
  exact ⟨i, by omega, rfl, h.grow hX hg hne⟩
def RetCp (R w : World) (g : Nat) (A : Option Addr) (n c k : Nat) (l : List Int) (b m : Nat) (T : List T3) (x : Nat) (e : Ending) (w' : World) : Prop := ∃ r : Nat, r < m ∧ e = .returned (.int .i64 r) ∧ CkL R w w' g A n c k l b m T x
theorem ck_pick {R w W : World} {g : Nat} {A : Option Addr} {n c k : Nat} {l : List Int} {b m : Nat} {T : List T3} {x : Nat} (h : CkL R w W g A n c k l b m T x) (hk : k ≤ 1000000) (hm1 : 1 ≤ m) (hm2 : m ≤ 1000) (hne : b ≠ g) :
    Calls Try.prog 67 #[.pointer (some ⟨g, 0, none⟩), .int .i64 m] W (RetCp R w g A n c (k + 2) l b m T x) := by
  obtain ⟨h, hr, ⟨base, cap, ho⟩, hgx⟩ := h
  refine (pick_cx h.1 m (by omega) (by omega) (by omega)).mono ?_
  intro e w' hp
  obtain ⟨r, ⟨h0, h1⟩, rfl, hX, hg⟩ := h.1.pick hp
  obtain ⟨i, rfl⟩ : ∃ i : Nat, r = i := ⟨r.toNat, by omega⟩
  have ho' := ho.kept hg (.inr (by simp [blkOf]; omega))
  exact ⟨i, by omega, rfl, h.grow hX hg hne, ho'.rd, ⟨base, cap, ho'⟩, hgx⟩
def RetCa (R w : World) (g : Nat) (A : Option Addr) (n c k : Nat) (l : List Int) (b m : Nat) (T : List T3) (e : Ending) (w' : World) : Prop := ∃ v : Int, (-1 ≤ v ∧ v ≤ 20) ∧ e = .returned (.int .i64 v) ∧ CkS R w w' g A n c k l b m T
theorem ck_among {R w W : World} {g : Nat} {A : Option Addr} {n c k : Nat} {l : List Int} {b m : Nat} {T : List T3} {x : Nat} (h : CkL R w W g A n c k l b m T x) (hk : k ≤ 1000000) (hne : b ≠ g) (d : Nat) :
    Calls Try.prog 66 #[.pointer (some ⟨g, 0, none⟩), .slice (some ⟨x, 0, none⟩) 5 d] W (RetCa R w g A n c (k + 2) l b m T) := by
  obtain ⟨h, hr, ⟨base, cap, ho⟩, hgx⟩ := h
  refine (among_cx h.1 5 d [0, 0, -1, 1, 20] (by omega) hr hgx (by omega) (by omega)).mono ?_
  rintro e w' ⟨v, hv, rfl, hC, hg⟩
  exact ⟨v, by simp at hv; omega, rfl, h.grow (h.1.grow hC hg) hg hne⟩
theorem cuT_pos {l : List (Int × Int)} {a b c gap : Int} (ht : timedB l a b c gap = true) : 1 ≤ (cuT l a b c gap).length := by
  have hn := (slotsB_of (timedB_of ht).1).2.1
  unfold cuT
  rw [stS_len, cuA, List.length_append, slC_len]
  omega
theorem cuT_time {l : List (Int × Int)} {a b c gap : Int} (ht : timedB l a b c gap = true) (j : Nat) (hj : j < (cuT l a b c gap).length) : 0 ≤ ((cuT l a b c gap)[j]?.getD z3).1 ∧ ((cuT l a b c gap)[j]?.getD z3).1 ≤ 2000000 := by
  have hm : (cuT l a b c gap)[j]?.getD z3 ∈ cuT l a b c gap := getD_mem z3 _ j hj
  exact (cuT_ok ht _ hm).1
set_option maxHeartbeats 4000000 in
theorem clock_any {R w : World} {g n c k : Nat} {A : Option Addr} {l : List Int} (h : Cx R w g A n c k l) (hk : k ≤ 900000) (D : Option Addr) (q z : Nat) (L : List (Int × Int)) (a0 a1 a2 a3 : Int) (base : Nat) (hD : OwS base w D q z L) (hq : q ≤ 41) (hDg : blkOf D = none ∨ blkOf D ≠ some g) :
    Calls Try.prog 82 #[.pointer (some ⟨g, 0, none⟩), .slice D q z, .agg #[.int .i64 a0, .int .i64 a1, .int .i64 a2, .int .i64 a3]] w (RetCk R w g A n c (k + 20) l) := by
  have hgw := h.cur.lt
  have hqb : q ≤ 1099511627776 := by omega
  have hd0 := heap_alloc_new w (.cells #[.int .i64 a0, .int .i64 a1, .int .i64 a2, .int .i64 a3] 25)
  have h0 := h.below (bAlloc (Below.refl _ w) (.cells #[.int .i64 a0, .int .i64 a1, .int .i64 a2, .int .i64 a3] 25))
  have D0 := hD.below (bAlloc (Below.refl _ w) (.cells #[.int .i64 a0, .int .i64 a1, .int .i64 a2, .int .i64 a3] 25))
  have g0 := World.grownBy_alloc w (.cells #[.int .i64 a0, .int .i64 a1, .int .i64 a2, .int .i64 a3] 25) (some g)
  go_enter Try.func82, Try.ntmps82
  go_wp2_with fail
  generalize w.alloc (.cells #[.int .i64 a0, .int .i64 a1, .int .i64 a2, .int .i64 a3] 25) = W0 at *
  have hlt0 : w.heap.size < W0.heap.size := (Array.getElem?_eq_some_iff.1 hd0).1
  generalize hpp : w.heap.size = p0 at *
  have ct := tiGood_any W0 D q z L a0 a1 a2 a3 D0.rd hqb
  by_cases ht : timedB L a0 a1 a2 a3 = true
  · rw [ht] at ct
    refine ct.mono ?_
    rintro e w1 ⟨rfl, x1, rfl⟩
    have h1 := h0.below (ext_below W0 x1)
    have g1 := g0.trans (grownBy_of_below (row := some g) (ext_below W0 x1))
    have hd1 := heap_old hd0 (ext_below W0 x1)
    have D1 := D0.below (ext_below W0 x1)
    generalize ext W0 x1 = W1 at *
    clear ct h0 hd0 D0 g0 hD
    go_wp2_with fail
    refine (one_cx h1 4 (by omega) (by omega) (by omega)).mono ?_
    rintro e w2 ⟨b2, rfl, hC2, g2⟩
    have h2 := h1.grow hC2 g2
    have G2 := g1.trans g2
    have hd2 := heap_kept hd1 g2 (by omega)
    have D2 := (D1.kept g2 hDg).rd
    clear h1 g1 hd1 D1 hC2 g2
    cases b2
    · obtain ⟨⟨q0, q1, q2, q3⟩, q4, q5, q6, q7⟩ := blk4 hd2
      go_wp2_with ((go_at_call 93; ((with_reducible refine (srCues_any _ _ _ _ _ _ _ _ _ D2 hqb ht).mono ?_); rintro e w' ⟨E, m, y, x3, rfl, rfl, oE⟩)))
      have hm1 := cuT_pos ht
      have hm2 := cuT_len ht
      have htm := fun j hj => cuT_time ht j hj
      rw [oE.len] at hm1 hm2 htm
      generalize cuT L a0 a1 a2 a3 = T at *
      obtain ⟨bE, rfl, hE1, hE2⟩ := oE.form_ (by omega)
      have hneE : bE ≠ g := by have := h2.cur.lt; omega
      have F : CkS R w (ext w2 x3) g A n c (k + 2) l bE m T := ⟨h2.below (ext_below _ _), G2.trans (grownBy_of_below (row := some g) (ext_below _ _)), hE2, fun j hj => (oE.cell_ j hj).1⟩
      have hm3 : m ≤ 1000 := by omega
      generalize ext w2 x3 = w3 at *
      clear D2 hd2 q0 q1 q2 q3 q4 q5 q6 q7 oE htm
      have FL := CkL.mk_ F
      go_region_held3 (fun w' => ∀ j : Nat, j < m → w'.cell? ⟨bE, j * 3, none⟩ = some (.int .i64 (T[j]?.getD z3).1)) (first | exact F.cells | exact F.drew.cells | exact FL.cells | exact F4.cells | exact G4.cells | exact (CkL.mk2 G4).cells | exact F5.cells) (first | (go_at_call 67; ((with_reducible refine (ck_pick FL (by omega) hm1 hm3 hneE).mono ?_); rintro e w' ⟨r, hr, rfl, F4⟩; have hrI : (r : Int) < m := (by omega))) | (go_at_call 67; ((with_reducible refine (ckS_pick F.drew (by omega) hm1 hm3 hneE).mono ?_); rintro e w' ⟨r, hr, rfl, G4⟩; have hrI : (r : Int) < m := (by omega))) | (go_at_call 66; ((with_reducible refine (ck_among F4 (by omega) hneE _).mono ?_); rintro e w' ⟨v, hv, rfl, F5⟩)) | (go_at_call 66; ((with_reducible refine (ck_among (CkL.mk2 G4) (by omega) hneE _).mono ?_); rintro e w' ⟨v, hv, rfl, F5⟩)) | (go_at_call 121; ((with_reducible refine (l1Most_any _ _ _).mono ?_); rintro e w' ⟨rfl, rfl⟩)) | (go_at_call 120; ((with_reducible refine (l1Least_any _ _ _).mono ?_); rintro e w' ⟨rfl, rfl⟩)))
      all_goals
        go_wp2
        go_ret
        exact ⟨_, rfl, F5.1.mono (by omega), F5.2.1⟩
    · go_wp2_with fail
      refine (among_lit h2 (by omega) [0, 36000, 200000, 200001, -1] 5 _ rfl rfl (by omega) (by omega) _ rfl 5).mono ?_
      rintro e w5 ⟨v5, hv5, rfl, h5, g5⟩
      clear hv5
      go_wp2
      go_ret
      exact ⟨v5, rfl, h5.mono (by omega), G2.trans g5⟩
  · have ht' : timedB L a0 a1 a2 a3 = false := by simpa using ht
    rw [ht'] at ct
    refine ct.mono ?_
    rintro e w1 ⟨rfl, x1, rfl⟩
    have h1 := h0.below (ext_below W0 x1)
    have g1 := g0.trans (grownBy_of_below (row := some g) (ext_below W0 x1))
    generalize ext W0 x1 = W1 at *
    clear ct h0 hd0 D0 g0
    go_wp2_with fail
    refine (among_lit h1 (by omega) [0, 36000, 200000, 200001, -1] 5 _ rfl rfl (by omega) (by omega) _ rfl 5).mono ?_
    rintro e w5 ⟨v5, hv5, rfl, h5, g5⟩
    clear hv5
    go_wp2
    go_ret
    exact ⟨v5, rfl, h5.mono (by omega), g1.trans g5⟩
end Go.Proofs.Ytogglhgagblihaa
