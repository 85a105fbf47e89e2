/- What the reference draws for the laws on times: a day. Conditions: none. -/
import Derived.Test.YtpjaiihkgeabiaaDoorDraw9
set_option linter.unusedVariables false
set_option linter.unusedSimpArgs false
set_option maxRecDepth 100000
namespace Go.Proofs.YtpjaiihkgeabiaaDoor
open Go.RowKit
theorem blk4 {w : World} {g ty : Nat} {x0 x1 x2 x3 : Value} (h : w.heap[g]? = some (.cells #[x0, x1, x2, x3] ty (0, 0))) : (w.cell? ⟨g, 0, none⟩ = some x0 ∧ w.cell? ⟨g, 1, none⟩ = some x1 ∧ w.cell? ⟨g, 2, none⟩ = some x2 ∧ w.cell? ⟨g, 3, none⟩ = some x3) ∧ w.frozen? ⟨g, 0, none⟩ = false ∧ w.frozen? ⟨g, 1, none⟩ = false ∧ w.frozen? ⟨g, 2, none⟩ = false ∧ w.frozen? ⟨g, 3, none⟩ = false := by
  refine ⟨⟨?_, ?_, ?_, ?_⟩, ?_, ?_, ?_, ?_⟩ <;> simp [World.cell?, World.frozen?, h]
theorem heap_kept {w w' : World} {b g : Nat} {o : Obj} (h : w.heap[b]? = some o) (hg : w.grownBy w' (some g)) (hne : b ≠ g) : w'.heap[b]? = some o := by
  have hlt : b < w.heap.size := by
    rcases Nat.lt_or_ge b w.heap.size with h' | h'
    · exact h'
    · simp [Array.getElem?_eq_none h'] at h
  rw [hg.block b hlt (fun e => hne (by injection e))]
  exact h
theorem heap_old {w w' : World} {b : Nat} {o : Obj} (h : w.heap[b]? = some o) (hb : Below w.heap.size w w') : w'.heap[b]? = some o := by
  have hlt : b < w.heap.size := by
    rcases Nat.lt_or_ge b w.heap.size with h' | h'
    · exact h'
    · simp [Array.getElem?_eq_none h'] at h
  rw [hb.block b hlt]
  exact h
def RetAl (R W : World) (g : Nat) (A : Option Addr) (n c k : Nat) (l : List Int) (L : List Int) (e : Ending) (w' : World) : Prop := ∃ r : Int, r ∈ L ∧ e = .returned (.int .i64 r) ∧ Cx R w' g A n c k l ∧ W.grownBy w' (some g)
/-- among, at a list that was just laid. -/
theorem among_lit {R W : World} {g n c k : Nat} {A : Option Addr} {l : List Int} (h : Cx R W g A n c k l) (hk : k ≤ 1099511627000) (L : List Int) (m : Nat) (b : Nat) (hb : b = W.heap.size) (hm : m = L.length) (hm1 : 1 ≤ m) (hm2 : m ≤ 1000) (cs : Array Value) (hcs : cs.toList = L.map (Value.int .i64)) (d : Nat) :
    Calls Tryd.prog 51 #[.pointer (some ⟨g, 0, none⟩), .slice (some ⟨b, 0, none⟩) m d] (W.alloc (.cells cs 3)) (RetAl R W g A n c (k + 2) l L) := by
  subst hb hm
  have h0 := h.below (bAlloc (Below.refl _ W) (.cells cs 3))
  refine (among_cx h0 L.length d L hk (int_lit L (by simp only [maxLen]; omega) cs hcs) h.cur.lt hm1 (by omega)).mono ?_
  rintro e w' ⟨r, hr, he, hC, hg⟩
  exact ⟨r, hr, he, h0.grow hC hg, (World.grownBy_alloc W _ _).trans hg⟩
theorem Cx.pick {R w : World} {g n c k : Nat} {A : Option Addr} {l : List Int} (h : Cx R w g A n c k l) {lo hi : Int} {k' : Nat} {e : Ending} {w' : World} (hr : RetNx w g A n c k' lo hi e w') : ∃ r : Int, (lo ≤ r ∧ r ≤ hi) ∧ e = .returned (.int .i64 r) ∧ Cx R w' g A n c k' l ∧ w.grownBy w' (some g) := by
  obtain ⟨r, h1, h2, h3, h4⟩ := hr; exact ⟨r, h1, h2, h.grow h3 h4, h4⟩
theorem grow_set {w w' : World} {g b : Nat} (h : w.grownBy w' (some g)) (hb : w.heap.size ≤ b) (j : Nat) (v : Value) : w.grownBy (w'.setCell ⟨b, j, none⟩ v) (some g) :=
  grown_new (D := some ⟨b, 0, none⟩) h (cur_grown w' b j v) (fun q hq => (show b = q by simpa [blkOf] using hq) ▸ hb)
theorem Cx.set {R w : World} {g n c k b : Nat} {A : Option Addr} {l : List Int} (h : Cx R w g A n c k l) (hb : R.heap.size ≤ b) (hne : b ≠ g) (j : Nat) (v : Value) : Cx R (w.setCell ⟨b, j, none⟩ v) g A n c k l :=
  h.row (cur_grown w b j v) (fun e => by injection e with e; exact hne e) (fun q hq => by injection hq with hq; omega)
def RetDay (R w : World) (g : Nat) (A : Option Addr) (n c k : Nat) (l : List Int) (e : Ending) (w' : World) : Prop := ∃ a0 a1 a2 a3 : Int, e = .returned (.agg #[.int .i64 a0, .int .i64 a1, .int .i64 a2, .int .i64 a3]) ∧ Cx R w' g A n c k l ∧ w.grownBy w' (some g)
set_option maxHeartbeats 4000000 in
theorem day_any {R w : World} {g n c k : Nat} {A : Option Addr} {l : List Int} (h : Cx R w g A n c k l) (hk : k ≤ 1000000) :
    Calls Tryd.prog 72 #[.pointer (some ⟨g, 0, none⟩)] w (RetDay R w g A n c (k + 12) l) := by
  have hgw := h.cur.lt
  go_enter Tryd.func72, Tryd.ntmps72
  go_wp2_with fail
  have hr0 := heap_alloc_new w (.cells #[.int .i64 0, .int .i64 0, .int .i64 0, .int .i64 0] 53)
  have h0 := h.below (bAlloc (Below.refl _ w) (.cells #[.int .i64 0, .int .i64 0, .int .i64 0, .int .i64 0] 53))
  have g0 := World.grownBy_alloc w (.cells #[.int .i64 0, .int .i64 0, .int .i64 0, .int .i64 0] 53) (some g)
  have hs0 : (w.alloc (.cells #[.int .i64 0, .int .i64 0, .int .i64 0, .int .i64 0] 53)).heap.size = w.heap.size + 1 := by simp
  generalize w.alloc (.cells #[.int .i64 0, .int .i64 0, .int .i64 0, .int .i64 0] 53) = W0 at *
  refine (among_lit h0 (by omega) [0, 36000, 86400] 3 _ hs0.symm rfl (by omega) (by omega) _ rfl 3).mono ?_
  rintro e w1 ⟨v1, hv1, rfl, h1, g1⟩
  have hr1 := heap_kept hr0 g1 (by omega)
  clear hv1 hs0
  go_wp2_with fail
  refine (pick_cx h1 8 (by omega) (by omega) (by omega)).mono ?_
  intro e w2 hp
  obtain ⟨v2, ⟨ha0, ha1⟩, rfl, h2, g2⟩ := h1.pick hp
  have hr2 := heap_kept hr1 g2 (by omega)
  clear hp
  go_wp2_with fail
  refine (among_lit h2 (by omega) [0, 240, 360, 600] 4 _ rfl rfl (by omega) (by omega) _ rfl 4).mono ?_
  rintro e w3 ⟨v3, hv3, rfl, h3, g3⟩
  have hr3 := heap_kept hr2 g3 (by omega)
  clear hv3
  go_wp2_with fail
  refine (among_lit h3 (by omega) [0, 60, 90, 300] 4 _ rfl rfl (by omega) (by omega) _ rfl 4).mono ?_
  rintro e w4 ⟨v4, hv4, rfl, h4, g4⟩
  have hr4 := heap_kept hr3 g4 (by omega)
  have G4 := (((g0.trans g1).trans g2).trans g3).trans g4
  clear hv4 hr0 hr1 hr2 hr3 g0 g1 g2 g3 g4 h0 h1 h2 h3
  go_wp2_with fail
  have hd5 := heap_alloc_new w4 (.cells #[.int .i64 v1, .int .i64 (1 + v2), .int .i64 v3, .int .i64 v4] 53)
  have h5 := h4.below (bAlloc (Below.refl _ w4) (.cells #[.int .i64 v1, .int .i64 (1 + v2), .int .i64 v3, .int .i64 v4] 53))
  have hr5 := heap_old hr4 (bAlloc (Below.refl _ w4) (.cells #[.int .i64 v1, .int .i64 (1 + v2), .int .i64 v3, .int .i64 v4] 53))
  have G5 := G4.trans (World.grownBy_alloc w4 (.cells #[.int .i64 v1, .int .i64 (1 + v2), .int .i64 v3, .int .i64 v4] 53) (some g))
  have hgb := h4.cur.lt
  have hrb : w.heap.size < w4.heap.size := by
    rcases Nat.lt_or_ge w.heap.size w4.heap.size with h' | h'
    · exact h'
    · simp [Array.getElem?_eq_none h'] at hr4
  generalize w4.alloc (.cells #[.int .i64 v1, .int .i64 (1 + v2), .int .i64 v3, .int .i64 v4] 53) = W5 at *
  generalize w4.heap.size = b at *
  generalize 1 + v2 = v2' at *
  have hRw := h.bel.size
  generalize hrr : w.heap.size = r at *
  clear hr4 h4 G4
  refine (pick_cx h5 24 (by omega) (by omega) (by omega)).mono ?_
  intro e w6 hp
  obtain ⟨r6, ⟨hb0, hb1⟩, rfl, h6, g6⟩ := h5.pick hp
  have hr6 := heap_kept hr5 g6 (by omega)
  have hd6 := heap_kept hd5 g6 (by omega)
  have G6 := G5.trans g6
  clear hp hr5 hd5 g6 h5 G5
  have hn1 : ¬ r = b := by omega
  have hn2 : ¬ b = r := by omega
  by_cases e0 : r6 = 0
  · subst e0
    go_wp2_with fail
    refine (among_lit h6 (by omega) [-1, 86401] 2 _ rfl rfl (by omega) (by omega) _ rfl 2).mono ?_
    rintro e w7 ⟨v7, hv7, rfl, h7, g7⟩
    have hr7 := heap_kept hr6 g7 (by omega)
    have hd7 := heap_kept hd6 g7 (by omega)
    have G7 := G6.trans g7
    clear hr6 hd6 g7 h6 G6 hv7
    obtain ⟨⟨p0, p1, p2, p3⟩, p4, p5, p6, p7⟩ := blk4 hr7
    obtain ⟨⟨q0, q1, q2, q3⟩, q4, q5, q6, q7⟩ := blk4 hd7
    have Hr := Lib.hid hrr
    clear hr7 hd7 hrr
    go_wp2
    exact bodyPost_ret (v := .agg #[.int .i64 v7, .int .i64 v2', .int .i64 v3, .int .i64 v4]) (by simp [results, Tryd.results72, go_sem, *]) rfl ⟨_, _, _, _, rfl, by repeat (first | exact h7.mono (by omega) | refine Cx.set ?_ (by omega) (by omega) _ _), by repeat (first | exact G7 | refine grow_set ?_ (by rw [Hr.out]; omega) _ _)⟩
  · skip
    by_cases e1 : r6 = 1
    · subst e1
      go_wp2_with fail
      refine (among_lit h6 (by omega) [0, 9] 2 _ rfl rfl (by omega) (by omega) _ rfl 2).mono ?_
      rintro e w7 ⟨v7, hv7, rfl, h7, g7⟩
      have hr7 := heap_kept hr6 g7 (by omega)
      have hd7 := heap_kept hd6 g7 (by omega)
      have G7 := G6.trans g7
      clear hr6 hd6 g7 h6 G6 hv7
      obtain ⟨⟨p0, p1, p2, p3⟩, p4, p5, p6, p7⟩ := blk4 hr7
      obtain ⟨⟨q0, q1, q2, q3⟩, q4, q5, q6, q7⟩ := blk4 hd7
      have Hr := Lib.hid hrr
      clear hr7 hd7 hrr
      go_wp2
      exact bodyPost_ret (v := .agg #[.int .i64 v1, .int .i64 v7, .int .i64 v3, .int .i64 v4]) (by simp [results, Tryd.results72, go_sem, *]) rfl ⟨_, _, _, _, rfl, by repeat (first | exact h7.mono (by omega) | refine Cx.set ?_ (by omega) (by omega) _ _), by repeat (first | exact G7 | refine grow_set ?_ (by rw [Hr.out]; omega) _ _)⟩
    · skip
      by_cases e2 : r6 = 2
      · subst e2
        go_wp2_with fail
        refine (among_lit h6 (by omega) [-1, 601] 2 _ rfl rfl (by omega) (by omega) _ rfl 2).mono ?_
        rintro e w7 ⟨v7, hv7, rfl, h7, g7⟩
        have hr7 := heap_kept hr6 g7 (by omega)
        have hd7 := heap_kept hd6 g7 (by omega)
        have G7 := G6.trans g7
        clear hr6 hd6 g7 h6 G6 hv7
        obtain ⟨⟨p0, p1, p2, p3⟩, p4, p5, p6, p7⟩ := blk4 hr7
        obtain ⟨⟨q0, q1, q2, q3⟩, q4, q5, q6, q7⟩ := blk4 hd7
        have Hr := Lib.hid hrr
        clear hr7 hd7 hrr
        go_wp2
        exact bodyPost_ret (v := .agg #[.int .i64 v1, .int .i64 v2', .int .i64 v7, .int .i64 v4]) (by simp [results, Tryd.results72, go_sem, *]) rfl ⟨_, _, _, _, rfl, by repeat (first | exact h7.mono (by omega) | refine Cx.set ?_ (by omega) (by omega) _ _), by repeat (first | exact G7 | refine grow_set ?_ (by rw [Hr.out]; omega) _ _)⟩
      · skip
        by_cases e3 : r6 = 3
        · subst e3
          go_wp2_with fail
          refine (among_lit h6 (by omega) [-1, 301] 2 _ rfl rfl (by omega) (by omega) _ rfl 2).mono ?_
          rintro e w7 ⟨v7, hv7, rfl, h7, g7⟩
          have hr7 := heap_kept hr6 g7 (by omega)
          have hd7 := heap_kept hd6 g7 (by omega)
          have G7 := G6.trans g7
          clear hr6 hd6 g7 h6 G6 hv7
          obtain ⟨⟨p0, p1, p2, p3⟩, p4, p5, p6, p7⟩ := blk4 hr7
          obtain ⟨⟨q0, q1, q2, q3⟩, q4, q5, q6, q7⟩ := blk4 hd7
          have Hr := Lib.hid hrr
          clear hr7 hd7 hrr
          go_wp2
          exact bodyPost_ret (v := .agg #[.int .i64 v1, .int .i64 v2', .int .i64 v3, .int .i64 v7]) (by simp [results, Tryd.results72, go_sem, *]) rfl ⟨_, _, _, _, rfl, by repeat (first | exact h7.mono (by omega) | refine Cx.set ?_ (by omega) (by omega) _ _), by repeat (first | exact G7 | refine grow_set ?_ (by rw [Hr.out]; omega) _ _)⟩
        · skip
          obtain ⟨⟨p0, p1, p2, p3⟩, p4, p5, p6, p7⟩ := blk4 hr6
          obtain ⟨⟨q0, q1, q2, q3⟩, q4, q5, q6, q7⟩ := blk4 hd6
          have Hr := Lib.hid hrr
          clear hr6 hd6 hrr
          go_wp2
          exact bodyPost_ret (v := .agg #[.int .i64 v1, .int .i64 v2', .int .i64 v3, .int .i64 v4]) (by simp [results, Tryd.results72, go_sem, *]) rfl ⟨_, _, _, _, rfl, by repeat (first | exact h6.mono (by omega) | refine Cx.set ?_ (by omega) (by omega) _ _), by repeat (first | exact G6 | refine grow_set ?_ (by rw [Hr.out]; omega) _ _)⟩
end Go.Proofs.YtpjaiihkgeabiaaDoor
