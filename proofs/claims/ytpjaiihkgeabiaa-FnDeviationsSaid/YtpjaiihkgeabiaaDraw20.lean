/- What the reference draws for the law on deviations: the three drawing functions. Conditions: none. -/
import Derived.Test.YtpjaiihkgeabiaaDraw19
set_option linter.unusedVariables false
set_option linter.unusedSimpArgs false
set_option maxRecDepth 100000
namespace Go.Proofs.Ytpjaiihkgeabiaa
open Go.RowKit
/-- Marks of a call's own, to be read. -/
def OkM (w : World) (A : Option Addr) (n c : Nat) (B : Option Addr) (m : Nat) (G K : List (List Int)) : Prop := RdMk w A n B m G K ∧ n ≤ c ∧ (n ≤ 15 ∧ m ≤ 4) ∧ (∀ j, j < n → (G[j]?.getD []).length ≤ 10) ∧ ∀ j, j < m → (K[j]?.getD []).length ≤ 10
def RetMD (w : World) (e : Ending) (w' : World) : Prop := ∃ (A : Option Addr) (n c : Nat) (G : List (List Int)) (B : Option Addr) (m d : Nat) (K : List (List Int)) (a : Int) (x : World), e = .returned (.tuple #[.agg #[.slice A n c, .slice B m d], .int .i64 a]) ∧ w' = ext w x ∧ OkM (ext w x) A n c B m G K
def RetMDD (w : World) (lo hi : Int) (e : Ending) (w' : World) : Prop := ∃ (A : Option Addr) (n c : Nat) (G : List (List Int)) (B : Option Addr) (m d : Nat) (K : List (List Int)) (a b : Int) (x : World), e = .returned (.tuple #[.agg #[.slice A n c, .slice B m d], .int .i64 a, .int .i64 b]) ∧ (lo ≤ b ∧ b ≤ hi) ∧ w' = ext w x ∧ OkM (ext w x) A n c B m G K
/-- What stands while such a function draws: the result's block r, the cursor behind it, the two tables. -/
structure MW (w W : World) (r : Nat) (A : Option Addr) (n c k : Nat) (l : List Int) (A1 : Option Addr) (n1 c1 : Nat) (G : List (List Int)) (A2 : Option Addr) (n2 c2 : Nat) (K : List (List Int)) : Prop where
  cx : Cx (w.alloc zMarks) W (r + 1) A n c k l
  hr : w.heap.size = r
  hz : W.heap[r]? = some zMarks
  t1 : Tr (fun z => r + 1 < z) W A1 n1 c1 G
  t2 : Tr (fun z => r + 1 < z) W A2 n2 c2 K
  hn : n1 ≤ 15 ∧ n2 ≤ 4
  b1 : ∀ j, j < n1 → (G[j]?.getD []).length ≤ 10
  b2 : ∀ j, j < n2 → (K[j]?.getD []).length ≤ 10
section
variable {w W W' : World} {r n c k k' : Nat} {A : Option Addr} {l : List Int} {A1 : Option Addr} {n1 c1 : Nat} {G : List (List Int)} {A2 : Option Addr} {n2 c2 : Nat} {K : List (List Int)}
theorem MW.step (F : MW w W r A n c k l A1 n1 c1 G A2 n2 c2 K) (hX : Cx (w.alloc zMarks) W' (r + 1) A n c k' l) (hg : W.grownBy W' (some (r + 1))) : MW w W' r A n c k' l A1 n1 c1 G A2 n2 c2 K :=
  ⟨hX, F.hr, heap_kept F.hz hg (by omega), F.t1.kept hg (fun z hz e => by injection e; omega), F.t2.kept hg (fun z hz e => by injection e; omega), F.hn, F.b1, F.b2⟩
theorem MW.lt (F : MW w W r A n c k l A1 n1 c1 G A2 n2 c2 K) : r < W.heap.size := (Array.getElem?_eq_some_iff.1 F.hz).1
theorem MW.done (F : MW w W r A n c k l A1 n1 c1 G A2 n2 c2 K) (v0 v1 : Value) : ∃ x, (W.setCell ⟨r, 0, none⟩ v0).setCell ⟨r, 1, none⟩ v1 = ext w x ∧ OkM (ext w x) A1 n1 c1 A2 n2 G K := by
  have hr := F.hr
  have hB : Below w.heap.size w W := (bAlloc (Below.refl w.heap.size w) zMarks).trans (F.cx.bel.mono (by simp))
  obtain ⟨x, hx⟩ := ext_ex (bSet (bSet hB (p := ⟨r, 0, none⟩) (by show w.heap.size ≤ r; omega) v0) (p := ⟨r, 1, none⟩) (by show w.heap.size ≤ r; omega) v1)
  refine ⟨x, hx, ?_⟩
  rw [← hx]
  have q1 := (F.t1.set (g := r) (k := 0) (v := v0) (by omega)).set (g := r) (k := 1) (v := v1) (by omega)
  have q2 := (F.t2.set (g := r) (k := 0) (v := v0) (by omega)).set (g := r) (k := 1) (v := v1) (by omega)
  have hn := F.hn
  refine ⟨⟨q1.rd, q2.rd, by omega, by omega, fun j hj => Nat.le_trans (F.b1 j hj) (by omega), fun j hj => Nat.le_trans (F.b2 j hj) (by omega)⟩, q1.2.1, hn, F.b1, F.b2⟩
end
theorem cx_marks {w : World} {A : Option Addr} {n c : Nat} {l : List Int} (hr : RdY w A n l) (hn : n ≤ 9223372036854775807) :
    Cx (w.alloc zMarks) ((w.alloc zMarks).alloc (.cells #[.slice A n c, .int .i64 0, .int .u64 0] 47)) (w.heap.size + 1) A n c 0 l ∧ ((w.alloc zMarks).alloc (.cells #[.slice A n c, .int .i64 0, .int .u64 0] 47)).heap[w.heap.size]? = some zMarks ∧ ((w.alloc zMarks).alloc (.cells #[.slice A n c, .int .i64 0, .int .u64 0] 47)).heap.size = w.heap.size + 2 := by
  have h := cx_new (c := c) (hr.below (bAlloc (Below.refl w.heap.size w) zMarks)) hn
  rw [show (w.alloc zMarks).heap.size = w.heap.size + 1 by simp] at h
  exact ⟨h, heap_old (heap_alloc_new w zMarks) (bAlloc (Below.refl _ _) _), by simp⟩
theorem MW.mk_ {w W0 W : World} {r n c k : Nat} {A : Option Addr} {l : List Int} {A1 : Option Addr} {n1 c1 : Nat} {G : List (List Int)} {A2 : Option Addr} {n2 c2 : Nat} {K : List (List Int)} (hr : w.heap.size = r) (hz : W0.heap[r]? = some zMarks) (hs : r + 2 ≤ W0.heap.size)
    (hX : Cx (w.alloc zMarks) W (r + 1) A n c k l) (hg : W0.grownBy W (some (r + 1))) (t1 : Tr (fun z => W0.heap.size ≤ z) W A1 n1 c1 G) (t2 : Tr (fun z => W0.heap.size ≤ z) W A2 n2 c2 K) (hn : n1 ≤ 15 ∧ n2 ≤ 4) (b1 : ∀ j, j < n1 → (G[j]?.getD []).length ≤ 10) (b2 : ∀ j, j < n2 → (K[j]?.getD []).length ≤ 10) : MW w W r A n c k l A1 n1 c1 G A2 n2 c2 K :=
  ⟨hX, hr, heap_kept hz hg (by omega), t1.imp (fun z h => by omega), t2.imp (fun z h => by omega), hn, b1, b2⟩
set_option maxHeartbeats 4000000 in
theorem drawDeviationOf_any (w : World) (A : Option Addr) (n c : Nat) (l : List Int) (hr : RdY w A n l) (hn : n ≤ 9223372036854775807) :
    Calls Try.prog 4 #[.slice A n c] w (RetMD w) := by
  obtain ⟨h0, hz, hs⟩ := cx_marks (c := c) hr hn
  go_enter Try.func4, Try.ntmps4
  go_wp2_with fail
  simp only [zMarks] at hz
  generalize hrr : w.heap.size = r at *
  refine (howMany_any h0 (by omega)).mono ?_
  rintro e w1 ⟨N, rfl, _, hN, h1, g1⟩
  have hz1 := heap_kept hz g1 (by omega)
  have hs1 := g1.size
  go_wp2_with fail
  refine (anyMarks_any h1 (by omega) N hN).mono ?_
  rintro e w2 ⟨A1, n1, c1, G, A2, n2, c2, K, rfl, h2, g2, t1, t2, hb, b1, b2⟩
  have F2 := MW.mk_ hrr hz1 (by omega) h2 g2 t1 t2 hb b1 b2
  clear h0 hz hs h1 g1 hz1 hs1 h2 g2 t1 t2 hb b1 b2
  go_wp2_with fail
  refine (pick_cx F2.cx 6 (by omega) (by omega) (by omega)).mono ?_
  intro e w3 hp
  obtain ⟨v3, ⟨ha0, ha1⟩, rfl, h3, g3⟩ := F2.cx.pick hp
  have F3 := F2.step h3 g3
  clear hp F2 h3 g3
  go_wp2_with fail
  refine (pick_cx F3.cx 20 (by omega) (by omega) (by omega)).mono ?_
  intro e w4 hp
  obtain ⟨v4, ⟨hb0, hb1⟩, rfl, h4, g4⟩ := F3.cx.pick hp
  have F4 := F3.step h4 g4
  clear hp F3 h4 g4
  obtain ⟨⟨z0, z1⟩, y0, y1⟩ := blk2 F4.hz
  have hl := F4.lt
  go_wp2
  refine bodyPost_ret (v := .tuple #[.agg #[.slice A1 n1 c1, .slice A2 n2 c2], .int .i64 (v3 - v4 / 19)]) (by simp [results, Try.results4, go_sem, z0, z1, y0, y1, hl]) rfl ?_
  obtain ⟨x, hx, hOk⟩ := F4.done (.slice A1 n1 c1) (.slice A2 n2 c2)
  exact ⟨A1, n1, c1, G, A2, n2, c2, K, _, x, rfl, hx, hOk⟩
set_option maxHeartbeats 4000000 in
theorem drawAgreementOf_any (w : World) (A : Option Addr) (n c : Nat) (l : List Int) (hr : RdY w A n l) (hn : n ≤ 9223372036854775807) :
    Calls Try.prog 11 #[.slice A n c] w (RetMDD w (-1) 4) := by
  obtain ⟨h0, hz, hs⟩ := cx_marks (c := c) hr hn
  go_enter Try.func11, Try.ntmps11
  go_wp2_with fail
  simp only [zMarks] at hz
  generalize hrr : w.heap.size = r at *
  refine (howMany_any h0 (by omega)).mono ?_
  rintro e w1 ⟨N, rfl, _, hN, h1, g1⟩
  have hz1 := heap_kept hz g1 (by omega)
  have hs1 := g1.size
  go_wp2_with fail
  refine (anyMarks_any h1 (by omega) N hN).mono ?_
  rintro e w2 ⟨A1, n1, c1, G, A2, n2, c2, K, rfl, h2, g2, t1, t2, hb, b1, b2⟩
  have F2 := MW.mk_ hrr hz1 (by omega) h2 g2 t1 t2 hb b1 b2
  clear h0 hz hs h1 g1 hz1 hs1 h2 g2 t1 t2 hb b1 b2
  go_wp2_with fail
  refine (pick_cx F2.cx 5 (by omega) (by omega) (by omega)).mono ?_
  intro e w3 hp
  obtain ⟨v3, ⟨ha3, hb3⟩, rfl, h3, g3⟩ := F2.cx.pick hp
  have F3 := F2.step h3 g3
  clear hp F2 h3 g3
  go_wp2_with fail
  refine (pick_cx F3.cx 5 (by omega) (by omega) (by omega)).mono ?_
  intro e w4 hp
  obtain ⟨v4, ⟨ha4, hb4⟩, rfl, h4, g4⟩ := F3.cx.pick hp
  have F4 := F3.step h4 g4
  clear hp F3 h4 g4
  go_wp2_with fail
  refine (pick_cx F4.cx 20 (by omega) (by omega) (by omega)).mono ?_
  intro e w5 hp
  obtain ⟨v5, ⟨ha5, hb5⟩, rfl, h5, g5⟩ := F4.cx.pick hp
  have F5 := F4.step h5 g5
  clear hp F4 h5 g5
  obtain ⟨⟨z0, z1⟩, y0, y1⟩ := blk2 F5.hz
  have hl := F5.lt
  go_wp2
  refine bodyPost_ret (v := .tuple #[.agg #[.slice A1 n1 c1, .slice A2 n2 c2], .int .i64 v3, .int .i64 (v4 - v5 / 19)]) (by simp [results, Try.results11, go_sem, z0, z1, y0, y1, hl]) rfl ?_
  obtain ⟨x, hx, hOk⟩ := F5.done (.slice A1 n1 c1) (.slice A2 n2 c2)
  exact ⟨A1, n1, c1, G, A2, n2, c2, K, _, _, x, rfl, by omega, hx, hOk⟩
set_option maxHeartbeats 4000000 in
theorem drawOutsideOf_any (w : World) (A : Option Addr) (n c : Nat) (l : List Int) (hr : RdY w A n l) (hn : n ≤ 9223372036854775807) :
    Calls Try.prog 16 #[.slice A n c] w (RetMDD w (-1) 11) := by
  obtain ⟨h0, hz, hs⟩ := cx_marks (c := c) hr hn
  go_enter Try.func16, Try.ntmps16
  go_wp2_with fail
  simp only [zMarks] at hz
  generalize hrr : w.heap.size = r at *
  refine (howMany_any h0 (by omega)).mono ?_
  rintro e w1 ⟨N, rfl, _, hN, h1, g1⟩
  have hz1 := heap_kept hz g1 (by omega)
  have hs1 := g1.size
  go_wp2_with fail
  refine (anyMarks_any h1 (by omega) N hN).mono ?_
  rintro e w2 ⟨A1, n1, c1, G, A2, n2, c2, K, rfl, h2, g2, t1, t2, hb, b1, b2⟩
  have F2 := MW.mk_ hrr hz1 (by omega) h2 g2 t1 t2 hb b1 b2
  clear h0 hz hs h1 g1 hz1 hs1 h2 g2 t1 t2 hb b1 b2
  go_wp2_with fail
  refine (pick_cx F2.cx (N + 1) (by omega) (by omega) (by omega)).mono ?_
  intro e w3 hp
  obtain ⟨v3, ⟨ha3, hb3⟩, rfl, h3, g3⟩ := F2.cx.pick hp
  have F3 := F2.step h3 g3
  clear hp F2 h3 g3
  go_wp2_with fail
  refine (pick_cx F3.cx 20 (by omega) (by omega) (by omega)).mono ?_
  intro e w4 hp
  obtain ⟨v4, ⟨ha4, hb4⟩, rfl, h4, g4⟩ := F3.cx.pick hp
  have F4 := F3.step h4 g4
  clear hp F3 h4 g4
  go_wp2_with fail
  refine (among_lit F4.cx (by omega) [0, 0, 1, 1, 2, 10, 11, -1] 8 _ rfl rfl (by omega) (by omega) _ rfl 8).mono ?_
  rintro e w5 ⟨v5, hv5, rfl, h5, g5⟩
  have F5 := F4.step h5 g5
  have hv : -1 ≤ v5 ∧ v5 ≤ 11 := by simp at hv5; omega
  clear hv5 F4 h5 g5
  obtain ⟨⟨z0, z1⟩, y0, y1⟩ := blk2 F5.hz
  have hl := F5.lt
  go_wp2
  refine bodyPost_ret (v := .tuple #[.agg #[.slice A1 n1 c1, .slice A2 n2 c2], .int .i64 (v3 - v4 / 19), .int .i64 v5]) (by simp [results, Try.results16, go_sem, z0, z1, y0, y1, hl]) rfl ?_
  obtain ⟨x, hx, hOk⟩ := F5.done (.slice A1 n1 c1) (.slice A2 n2 c2)
  exact ⟨A1, n1, c1, G, A2, n2, c2, K, _, _, x, rfl, hv, hx, hOk⟩
end Go.Proofs.Ytpjaiihkgeabiaa
