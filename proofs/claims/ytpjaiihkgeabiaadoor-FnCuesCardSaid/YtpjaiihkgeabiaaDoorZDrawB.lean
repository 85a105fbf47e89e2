/- What the reference draws for the laws on boards: scores for slots. Conditions: none. -/
import Derived.Test.YtpjaiihkgeabiaaDoorZDraws
import Derived.Test.YtpjaiihkgeabiaaDoorCues3
set_option linter.unusedVariables false
set_option linter.unusedSimpArgs false
set_option maxRecDepth 100000
namespace Go.Proofs.YtpjaiihkgeabiaaDoor
open Go.RowKit
/-- What a function that draws a slice of ints from the cursor ends with. -/
def RetDL (R w : World) (g : Nat) (A : Option Addr) (n c k : Nat) (l : List Int) (e : Ending) (w' : World) : Prop := ∃ (D : Option Addr) (q z : Nat) (L : List Int), e = .returned (.slice D q z) ∧ q ≤ 1000 ∧ Cx R w' g A n c k l ∧ OwI R.heap.size w' D q z L ∧ Nw w D ∧ w.grownBy w' (some g)
end Go.Proofs.YtpjaiihkgeabiaaDoor
namespace Go.Proofs.YtpjaiihkgeabiaaDoor
open Go.RowKit
def RetCk (R w : World) (g : Nat) (A : Option Addr) (n c k : Nat) (l : List Int) (e : Ending) (w' : World) : Prop := ∃ t : Int, e = .returned (.int .i64 t) ∧ Cx R w' g A n c k l ∧ w.grownBy w' (some g)
/-- The cursor, what has changed since w, and the cues' row. -/
def CkS (R w W : World) (g : Nat) (A : Option Addr) (n c k : Nat) (l : List Int) (b m : Nat) (T : List T3) : Prop := Cx R W g A n c k l ∧ w.grownBy W (some g) ∧ b < W.heap.size ∧ ∀ j : Nat, j < m → W.cell? ⟨b, j * 3, none⟩ = some (.int .i64 (T[j]?.getD z3).1)
theorem CkS.grow {R w W W' : World} {g : Nat} {A : Option Addr} {n c k k' : Nat} {l : List Int} {b m : Nat} {T : List T3} (h : CkS R w W g A n c k l b m T) (hX : Cx R W' g A n c k' l) (hg : W.grownBy W' (some g)) (hne : b ≠ g) : CkS R w W' g A n c k' l b m T :=
  ⟨hX, h.2.1.trans hg, Nat.lt_of_lt_of_le h.2.2.1 hg.size, fun j hj => hg.cell (a := ⟨b, j * 3, none⟩) (h.2.2.2 j hj) (fun e => hne (by injection e))⟩
theorem CkS.lt {R w W : World} {g : Nat} {A : Option Addr} {n c k : Nat} {l : List Int} {b m : Nat} {T : List T3} (h : CkS R w W g A n c k l b m T) : b < W.heap.size := h.2.2.1
theorem CkS.drew {R w W : World} {g : Nat} {A : Option Addr} {n c k : Nat} {l : List Int} {b m : Nat} {T : List T3} (h : CkS R w W g A n c k l b m T) : CkS R w W.drew g A n c k l b m T :=
  ⟨h.1.below (bDrew (Below.refl _ _)), h.2.1.trans (grownBy_of_below (row := some g) (bDrew (Below.refl _ _))), h.2.2.1, h.2.2.2⟩
theorem CkS.cells {R w W : World} {g : Nat} {A : Option Addr} {n c k : Nat} {l : List Int} {b m : Nat} {T : List T3} (h : CkS R w W g A n c k l b m T) : ∀ j : Nat, j < m → W.cell? ⟨b, j * 3, none⟩ = some (.int .i64 (T[j]?.getD z3).1) := h.2.2.2
/-- The same, and a literal list of five. -/
def CkL (R w W : World) (g : Nat) (A : Option Addr) (n c k : Nat) (l : List Int) (b m : Nat) (T : List T3) (x : Nat) : Prop := CkS R w W g A n c k l b m T ∧ RdI W (some ⟨x, 0, none⟩) 5 [0, 0, -1, 1, 20] ∧ (∃ base cap, OwI base W (some ⟨x, 0, none⟩) 5 cap [0, 0, -1, 1, 20]) ∧ g < x
theorem CkL.cells {R w W : World} {g : Nat} {A : Option Addr} {n c k : Nat} {l : List Int} {b m : Nat} {T : List T3} {x : Nat} (h : CkL R w W g A n c k l b m T x) : ∀ j : Nat, j < m → W.cell? ⟨b, j * 3, none⟩ = some (.int .i64 (T[j]?.getD z3).1) := h.1.2.2.2
theorem CkL.mk2 {R w W : World} {g : Nat} {A : Option Addr} {n c k : Nat} {l : List Int} {b m : Nat} {T : List T3} (h : CkS R w W g A n c k l b m T) : CkL R w (W.alloc (.cells #[.int .i64 0, .int .i64 0, .int .i64 (-1), .int .i64 1, .int .i64 20] 3)) g A n c k l b m T W.heap.size := by
  have hB := bAlloc (Below.refl W.heap.size W) (.cells #[.int .i64 0, .int .i64 0, .int .i64 (-1), .int .i64 1, .int .i64 20] 3)
  have hO := OwI.lit_ (Below.refl _ W) [0, 0, -1, 1, 20] (by simp [maxLen]) #[.int .i64 0, .int .i64 0, .int .i64 (-1), .int .i64 1, .int .i64 20] rfl
  exact ⟨⟨h.1.below hB, h.2.1.trans (grownBy_of_below (row := some g) hB), Nat.lt_of_lt_of_le h.2.2.1 hB.size, fun j hj => (hB.cell (p := ⟨b, j * 3, none⟩) h.2.2.1).trans (h.2.2.2 j hj)⟩, hO.rd, ⟨_, _, hO⟩, h.1.cur.lt⟩
theorem CkL.mk_ {R w W : World} {g : Nat} {A : Option Addr} {n c k : Nat} {l : List Int} {b m : Nat} {T : List T3} (h : CkS R w W g A n c k l b m T) : CkL R w ((W.alloc (.cells #[.int .i64 0, .int .i64 0, .int .i64 (-1), .int .i64 1, .int .i64 20] 3)).drew) g A n c k l b m T W.heap.size := by
  obtain ⟨h1, _, ⟨base, cap, ho⟩, hg⟩ := CkL.mk2 h
  have ho' := ho.below (bDrew (Below.refl _ _))
  exact ⟨h1.drew, ho'.rd, ⟨base, cap, ho'⟩, hg⟩
def RetCq (R w : World) (g : Nat) (A : Option Addr) (n c k : Nat) (l : List Int) (b m : Nat) (T : List T3) (e : Ending) (w' : World) : Prop := ∃ r : Nat, r < m ∧ e = .returned (.int .i64 r) ∧ CkS R w w' g A n c k l b m T
theorem ckS_pick {R w W : World} {g : Nat} {A : Option Addr} {n c k : Nat} {l : List Int} {b m : Nat} {T : List T3} (h : CkS R w W g A n c k l b m T) (hk : k ≤ 1000000) (hm1 : 1 ≤ m) (hm2 : m ≤ 1000) (hne : b ≠ g) :
    Calls Tryd.prog 55 #[.pointer (some ⟨g, 0, none⟩), .int .i64 m] W (RetCq R w g A n c (k + 2) l b m T) := by
  refine (pick_cx h.1 m (by omega) (by omega) (by omega)).mono ?_
  intro e w' hp
  obtain ⟨r, ⟨h0, h1⟩, rfl, hX, hg⟩ := h.1.pick hp
  obtain ⟨i, rfl⟩ : ∃ i : Nat, r = i := ⟨r.toNat, by omega⟩
  exact ⟨i, by omega, rfl, h.grow hX hg hne⟩
def RetCp (R w : World) (g : Nat) (A : Option Addr) (n c k : Nat) (l : List Int) (b m : Nat) (T : List T3) (x : Nat) (e : Ending) (w' : World) : Prop := ∃ r : Nat, r < m ∧ e = .returned (.int .i64 r) ∧ CkL R w w' g A n c k l b m T x
theorem ck_pick {R w W : World} {g : Nat} {A : Option Addr} {n c k : Nat} {l : List Int} {b m : Nat} {T : List T3} {x : Nat} (h : CkL R w W g A n c k l b m T x) (hk : k ≤ 1000000) (hm1 : 1 ≤ m) (hm2 : m ≤ 1000) (hne : b ≠ g) :
    Calls Tryd.prog 55 #[.pointer (some ⟨g, 0, none⟩), .int .i64 m] W (RetCp R w g A n c (k + 2) l b m T x) := by
  obtain ⟨h, hr, ⟨base, cap, ho⟩, hgx⟩ := h
  refine (pick_cx h.1 m (by omega) (by omega) (by omega)).mono ?_
  intro e w' hp
  obtain ⟨r, ⟨h0, h1⟩, rfl, hX, hg⟩ := h.1.pick hp
  obtain ⟨i, rfl⟩ : ∃ i : Nat, r = i := ⟨r.toNat, by omega⟩
  have ho' := ho.kept hg (.inr (by simp [blkOf]; omega))
  exact ⟨i, by omega, rfl, h.grow hX hg hne, ho'.rd, ⟨base, cap, ho'⟩, hgx⟩
def RetCa (R w : World) (g : Nat) (A : Option Addr) (n c k : Nat) (l : List Int) (b m : Nat) (T : List T3) (e : Ending) (w' : World) : Prop := ∃ v : Int, (-1 ≤ v ∧ v ≤ 20) ∧ e = .returned (.int .i64 v) ∧ CkS R w w' g A n c k l b m T
theorem ck_among {R w W : World} {g : Nat} {A : Option Addr} {n c k : Nat} {l : List Int} {b m : Nat} {T : List T3} {x : Nat} (h : CkL R w W g A n c k l b m T x) (hk : k ≤ 1000000) (hne : b ≠ g) (d : Nat) :
    Calls Tryd.prog 51 #[.pointer (some ⟨g, 0, none⟩), .slice (some ⟨x, 0, none⟩) 5 d] W (RetCa R w g A n c (k + 2) l b m T) := by
  obtain ⟨h, hr, ⟨base, cap, ho⟩, hgx⟩ := h
  refine (among_cx h.1 5 d [0, 0, -1, 1, 20] (by omega) hr hgx (by omega) (by omega)).mono ?_
  rintro e w' ⟨v, hv, rfl, hC, hg⟩
  exact ⟨v, by simp at hv; omega, rfl, h.grow (h.1.grow hC hg) hg hne⟩
theorem cuT_pos {l : List (Int × Int)} {a b c gap : Int} (ht : timedB l a b c gap = true) : 1 ≤ (cuT l a b c gap).length := by
  have hn := (slotsB_of (timedB_of ht).1).2.1
  unfold cuT
  rw [stS_len, cuA, List.length_append, slC_len]
  omega
theorem cuT_time {l : List (Int × Int)} {a b c gap : Int} (ht : timedB l a b c gap = true) (j : Nat) (hj : j < (cuT l a b c gap).length) : 0 ≤ ((cuT l a b c gap)[j]?.getD z3).1 ∧ ((cuT l a b c gap)[j]?.getD z3).1 ≤ 2000000 := by
  have hm : (cuT l a b c gap)[j]?.getD z3 ∈ cuT l a b c gap := getD_mem z3 _ j hj
  exact (cuT_ok ht _ hm).1
set_option maxHeartbeats 4000000 in
theorem clock_any {R w : World} {g n c k : Nat} {A : Option Addr} {l : List Int} (h : Cx R w g A n c k l) (hk : k ≤ 900000) (D : Option Addr) (q z : Nat) (L : List (Int × Int)) (a0 a1 a2 a3 : Int) (base : Nat) (hD : OwS base w D q z L) (hq : q ≤ 41) (hDg : blkOf D = none ∨ blkOf D ≠ some g) :
    Calls Tryd.prog 88 #[.pointer (some ⟨g, 0, none⟩), .slice D q z, .agg #[.int .i64 a0, .int .i64 a1, .int .i64 a2, .int .i64 a3]] w (RetCk R w g A n c (k + 20) l) := by
  have hgw := h.cur.lt
  have hqb : q ≤ 1099511627776 := by omega
  have hd0 := heap_alloc_new w (.cells #[.int .i64 a0, .int .i64 a1, .int .i64 a2, .int .i64 a3] 53)
  have h0 := h.below (bAlloc (Below.refl _ w) (.cells #[.int .i64 a0, .int .i64 a1, .int .i64 a2, .int .i64 a3] 53))
  have D0 := hD.below (bAlloc (Below.refl _ w) (.cells #[.int .i64 a0, .int .i64 a1, .int .i64 a2, .int .i64 a3] 53))
  have g0 := World.grownBy_alloc w (.cells #[.int .i64 a0, .int .i64 a1, .int .i64 a2, .int .i64 a3] 53) (some g)
  go_enter Tryd.func88, Tryd.ntmps88
  go_wp2_with fail
  generalize w.alloc (.cells #[.int .i64 a0, .int .i64 a1, .int .i64 a2, .int .i64 a3] 53) = W0 at *
  have hlt0 : w.heap.size < W0.heap.size := (Array.getElem?_eq_some_iff.1 hd0).1
  generalize hpp : w.heap.size = p0 at *
  have ct := tiGood_any W0 D q z L a0 a1 a2 a3 D0.rd hqb
  by_cases ht : timedB L a0 a1 a2 a3 = true
  · rw [ht] at ct
    refine ct.mono ?_
    rintro e w1 ⟨rfl, x1, rfl⟩
    have h1 := h0.below (ext_below W0 x1)
    have g1 := g0.trans (grownBy_of_below (row := some g) (ext_below W0 x1))
    have hd1 := heap_old hd0 (ext_below W0 x1)
    have D1 := D0.below (ext_below W0 x1)
    generalize ext W0 x1 = W1 at *
    clear ct h0 hd0 D0 g0 hD
    go_wp2_with fail
    refine (one_cx h1 4 (by omega) (by omega) (by omega)).mono ?_
    rintro e w2 ⟨b2, rfl, hC2, g2⟩
    have h2 := h1.grow hC2 g2
    have G2 := g1.trans g2
    have hd2 := heap_kept hd1 g2 (by omega)
    have D2 := (D1.kept g2 hDg).rd
    clear h1 g1 hd1 D1 hC2 g2
    cases b2
    · obtain ⟨⟨q0, q1, q2, q3⟩, q4, q5, q6, q7⟩ := blk4 hd2
      go_wp2_with ((go_at_call 76; ((with_reducible refine (srCues_any _ _ _ _ _ _ _ _ _ D2 hqb ht).mono ?_); rintro e w' ⟨E, m, y, x3, rfl, rfl, oE⟩)))
      have hm1 := cuT_pos ht
      have hm2 := cuT_len ht
      have htm := fun j hj => cuT_time ht j hj
      rw [oE.len] at hm1 hm2 htm
      generalize cuT L a0 a1 a2 a3 = T at *
      obtain ⟨bE, rfl, hE1, hE2⟩ := oE.form_ (by omega)
      have hneE : bE ≠ g := by have := h2.cur.lt; omega
      have F : CkS R w (ext w2 x3) g A n c (k + 2) l bE m T := ⟨h2.below (ext_below _ _), G2.trans (grownBy_of_below (row := some g) (ext_below _ _)), hE2, fun j hj => (oE.cell_ j hj).1⟩
      have hm3 : m ≤ 1000 := by omega
      generalize ext w2 x3 = w3 at *
      clear D2 hd2 q0 q1 q2 q3 q4 q5 q6 q7 oE htm
      have FL := CkL.mk_ F
      go_region_held3 (fun w' => ∀ j : Nat, j < m → w'.cell? ⟨bE, j * 3, none⟩ = some (.int .i64 (T[j]?.getD z3).1)) (first | exact F.cells | exact F.drew.cells | exact FL.cells | exact F4.cells | exact G4.cells | exact (CkL.mk2 G4).cells | exact F5.cells) (first | (go_at_call 55; ((with_reducible refine (ck_pick FL (by omega) hm1 hm3 hneE).mono ?_); rintro e w' ⟨r, hr, rfl, F4⟩; have hrI : (r : Int) < m := (by omega))) | (go_at_call 55; ((with_reducible refine (ckS_pick F.drew (by omega) hm1 hm3 hneE).mono ?_); rintro e w' ⟨r, hr, rfl, G4⟩; have hrI : (r : Int) < m := (by omega))) | (go_at_call 51; ((with_reducible refine (ck_among F4 (by omega) hneE _).mono ?_); rintro e w' ⟨v, hv, rfl, F5⟩)) | (go_at_call 51; ((with_reducible refine (ck_among (CkL.mk2 G4) (by omega) hneE _).mono ?_); rintro e w' ⟨v, hv, rfl, F5⟩)) | (go_at_call 110; ((with_reducible refine (l1Most_any _ _ _).mono ?_); rintro e w' ⟨rfl, rfl⟩)) | (go_at_call 109; ((with_reducible refine (l1Least_any _ _ _).mono ?_); rintro e w' ⟨rfl, rfl⟩)))
      all_goals
        go_wp2
        go_ret
        exact ⟨_, rfl, F5.1.mono (by omega), F5.2.1⟩
    · go_wp2_with fail
      refine (among_lit h2 (by omega) [0, 36000, 200000, 200001, -1] 5 _ rfl rfl (by omega) (by omega) _ rfl 5).mono ?_
      rintro e w5 ⟨v5, hv5, rfl, h5, g5⟩
      clear hv5
      go_wp2
      go_ret
      exact ⟨v5, rfl, h5.mono (by omega), G2.trans g5⟩
  · have ht' : timedB L a0 a1 a2 a3 = false := by simpa using ht
    rw [ht'] at ct
    refine ct.mono ?_
    rintro e w1 ⟨rfl, x1, rfl⟩
    have h1 := h0.below (ext_below W0 x1)
    have g1 := g0.trans (grownBy_of_below (row := some g) (ext_below W0 x1))
    generalize ext W0 x1 = W1 at *
    clear ct h0 hd0 D0 g0
    go_wp2_with fail
    refine (among_lit h1 (by omega) [0, 36000, 200000, 200001, -1] 5 _ rfl rfl (by omega) (by omega) _ rfl 5).mono ?_
    rintro e w5 ⟨v5, hv5, rfl, h5, g5⟩
    clear hv5
    go_wp2
    go_ret
    exact ⟨v5, rfl, h5.mono (by omega), g1.trans g5⟩
end Go.Proofs.YtpjaiihkgeabiaaDoor
namespace Go.Proofs.YtpjaiihkgeabiaaDoor
open Go.RowKit
/-- Slots, a day, scores and an int. -/
def RetSDLI (w : World) (e : Ending) (w' : World) : Prop := ∃ (D : Option Addr) (q z : Nat) (L : List (Int × Int)) (a0 a1 a2 a3 : Int) (E : Option Addr) (p y : Nat) (S : List Int) (t : Int) (x : World), e = .returned (.tuple #[.slice D q z, .agg #[.int .i64 a0, .int .i64 a1, .int .i64 a2, .int .i64 a3], .slice E p y, .int .i64 t]) ∧ q ≤ 41 ∧ p ≤ 1000 ∧ w' = ext w x ∧ OwS w.heap.size (ext w x) D q z L ∧ OwI w.heap.size (ext w x) E p y S
def RetSDL (w : World) (e : Ending) (w' : World) : Prop := ∃ (D : Option Addr) (q z : Nat) (L : List (Int × Int)) (a0 a1 a2 a3 : Int) (E : Option Addr) (p y : Nat) (S : List Int) (x : World), e = .returned (.tuple #[.slice D q z, .agg #[.int .i64 a0, .int .i64 a1, .int .i64 a2, .int .i64 a3], .slice E p y]) ∧ q ≤ 41 ∧ p ≤ 1000 ∧ w' = ext w x ∧ OwS w.heap.size (ext w x) D q z L ∧ OwI w.heap.size (ext w x) E p y S
theorem OwI.day {base q z r : Nat} {W : World} {D : Option Addr} {L : List Int} (h : OwI base W D q z L) (hne : blkOf D = none ∨ blkOf D ≠ some r) (x0 x1 x2 x3 : Value) :
    OwI base ((((W.setCell ⟨r, 0, none⟩ x0).setCell ⟨r, 1, none⟩ x1).setCell ⟨r, 2, none⟩ x2).setCell ⟨r, 3, none⟩ x3) D q z L :=
  (((h.kept (cur_grown _ r 0 x0) hne).kept (cur_grown _ r 1 x1) hne).kept (cur_grown _ r 2 x2) hne).kept (cur_grown _ r 3 x3) hne
/-- The scores beside what is drawn. -/
structure ScS (W : World) (r : Nat) (E : Option Addr) (p y : Nat) (S : List Int) : Prop where
  o : OwI (r + 1) W E p y S
  nC : blkOf E = none ∨ blkOf E ≠ some (r + 1)
  nR : blkOf E = none ∨ blkOf E ≠ some r
  hp : p ≤ 1000
theorem ScS.step {W W' : World} {r : Nat} {E : Option Addr} {p y : Nat} {S : List Int} (h : ScS W r E p y S) (hg : W.grownBy W' (some (r + 1))) : ScS W' r E p y S := ⟨h.o.kept hg h.nC, h.nC, h.nR, h.hp⟩
theorem ScS.nil_ {W : World} {r : Nat} : ScS W r none 0 0 [] := ⟨OwI.nil_, .inl rfl, .inl rfl, by omega⟩
theorem SD.ltR {w W : World} {r b : Nat} {A : Option Addr} {n c k : Nat} {l : List Int} {D : Option Addr} {q z : Nat} {L : List (Int × Int)} {a0 a1 a2 a3 : Int} (h : SD w W r b A n c k l D q z L a0 a1 a2 a3) : r < W.heap.size := (Array.getElem?_eq_some_iff.1 h.hz).1
theorem SD.ltB {w W : World} {r b : Nat} {A : Option Addr} {n c k : Nat} {l : List Int} {D : Option Addr} {q z : Nat} {L : List (Int × Int)} {a0 a1 a2 a3 : Int} (h : SD w W r b A n c k l D q z L a0 a1 a2 a3) : b < W.heap.size := (Array.getElem?_eq_some_iff.1 h.hd).1
theorem clock_sd {w W : World} {r b : Nat} {A : Option Addr} {n c k : Nat} {l : List Int} {D : Option Addr} {q z : Nat} {L : List (Int × Int)} {a0 a1 a2 a3 : Int} (h : SD w W r b A n c k l D q z L a0 a1 a2 a3) {E : Option Addr} {p y : Nat} {S : List Int} (hS : ScS W r E p y S) (hk : k ≤ 30000) :
    Calls Tryd.prog 88 #[.pointer (some ⟨r + 1, 0, none⟩), .slice D q z, .agg #[.int .i64 a0, .int .i64 a1, .int .i64 a2, .int .i64 a3]] W (fun e w' => ∃ t : Int, e = .returned (.int .i64 t) ∧ SD w w' r b A n c (k + 20) l D q z L a0 a1 a2 a3 ∧ ScS w' r E p y S) := by
  refine (clock_any h.cx (by omega) D q z L a0 a1 a2 a3 _ h.oD h.hq h.nD).mono ?_
  rintro e w' ⟨t, rfl, hX, hG⟩
  exact ⟨t, rfl, h.step hX hG, hS.step hG⟩
set_option maxHeartbeats 4000000 in
theorem drawShownAt_any (w : World) (A : Option Addr) (n c : Nat) (l : List Int) (hr : RdY w A n l) (hn : n ≤ 9223372036854775807) :
    Calls Tryd.prog 38 #[.slice A n c] w (RetSDI w) := by
  obtain ⟨h, hz⟩ := cx_day (c := c) hr hn
  have hs : (w.alloc zDay).heap.size = w.heap.size + 1 := by simp
  have hs2 : ((w.alloc zDay).alloc (.cells #[.slice A n c, .int .i64 0, .int .u64 0] 76)).heap.size = w.heap.size + 1 + 1 := by simp
  have hw0 := bAlloc (Below.refl w.heap.size w) zDay
  go_enter Tryd.func38, Tryd.ntmps38
  go_wp2_with fail
  refine (slots_any h (by omega)).mono ?_
  rintro e w1 ⟨D, q, z, L, rfl, hq, h1, o1, hN, hG⟩
  have hz1 := heap_kept hz hG (by omega)
  rw [hs] at o1
  go_wp2_with fail
  refine (day_any h1 (by omega)).mono ?_
  rintro e w2 ⟨a0, a1, a2, a3, rfl, h2, g2⟩
  have hgl2 := h2.cur.lt
  have F3 : SD w (w2.alloc (.cells #[.int .i64 a0, .int .i64 a1, .int .i64 a2, .int .i64 a3] 53)) w.heap.size w2.heap.size A n c 1012 l D q z L a0 a1 a2 a3 :=
    have F2B := bAlloc (Below.refl w2.heap.size w2) (.cells #[.int .i64 a0, .int .i64 a1, .int .i64 a2, .int .i64 a3] 53)
    ⟨(h2.below F2B).mono (by omega), bAlloc (hw0.trans (h2.bel.mono hw0.size)) _, heap_old (heap_kept hz1 g2 (by omega)) F2B, heap_alloc_new w2 _, hgl2, (o1.kept g2 (hN.ne (by rw [hs2]; omega))).below F2B, hN.ne (by rw [hs2]; omega), hN.ne (by rw [hs2]; omega), hq⟩
  have hqb : q ≤ 1099511627776 := by omega
  clear h hz hz1 o1 hG g2 h1 hs hs2 hw0 h2 hN hgl2
  go_wp2_with fail
  generalize w2.alloc (.cells #[.int .i64 a0, .int .i64 a1, .int .i64 a2, .int .i64 a3] 53) = w3 at *
  generalize w2.heap.size = b at *
  generalize hrr : w.heap.size = r at *
  have Hr := Lib.hid hrr
  clear hrr
  obtain ⟨⟨q0, q1, q2, q3⟩, q4, q5, q6, q7⟩ := blk4 F3.hd
  have hlb3 : b < w3.heap.size := (Array.getElem?_eq_some_iff.1 F3.hd).1
  have F3d := F3.below (bDrew (Below.refl w3.heap.size w3))
  have S3d : ScS w3.drew r none 0 0 [] := ScS.nil_
  go_region_with (first | (go_at_call 88; ((with_reducible refine (clock_sd (by assumption) (by assumption) (by omega)).mono ?_); rintro e w' ⟨t, rfl, F5, S5⟩; obtain ⟨⟨s0, s1, s2, s3⟩, s4, s5, s6, s7⟩ := blk4 F5.hd; obtain ⟨⟨u0, u1, u2, u3⟩, u4, u5, u6, u7⟩ := blk4 F5.hz; have hl4 := F5.ltR; have hl5 := F5.ltB)))
  all_goals
    have FZ := F5
    have SZ := S5
    obtain ⟨⟨p0, p1, p2, p3⟩, p4, p5, p6, p7⟩ := blk4 FZ.hz
    have hlr := (Array.getElem?_eq_some_iff.1 FZ.hz).1
    go_wp2
    obtain ⟨x, hx⟩ := day_out Hr.out FZ.bel (.int .i64 a0) (.int .i64 a1) (.int .i64 a2) (.int .i64 a3)
    have o9 := (FZ.oD.day FZ.nR (.int .i64 a0) (.int .i64 a1) (.int .i64 a2) (.int .i64 a3)).mono (show w.heap.size ≤ r + 1 by rw [Hr.out]; omega)
    have u9 := (SZ.o.day SZ.nR (.int .i64 a0) (.int .i64 a1) (.int .i64 a2) (.int .i64 a3)).mono (show w.heap.size ≤ r + 1 by rw [Hr.out]; omega)
    rw [hx.out] at o9 u9
    exact bodyPost_ret (v := .tuple #[.slice D q z, .agg #[.int .i64 a0, .int .i64 a1, .int .i64 a2, .int .i64 a3], .int .i64 t]) (by simp [results, Tryd.results38, go_sem, *]) rfl ⟨D, q, z, _, a0, a1, a2, a3, t, x, rfl, FZ.hq, hx.out, o9⟩
end Go.Proofs.YtpjaiihkgeabiaaDoor
namespace Go.Proofs.YtpjaiihkgeabiaaDoor
open Go.RowKit
set_option maxHeartbeats 1000000 in
theorem drawCuesOf_any (w : World) (A : Option Addr) (n c : Nat) (l : List Int) (hr : RdY w A n l) (hn : n ≤ 9223372036854775807) :
    Calls Tryd.prog 27 #[.slice A n c] w (RetSD w) := by
  obtain ⟨h, hz⟩ := cx_day (c := c) hr hn
  have hs : (w.alloc zDay).heap.size = w.heap.size + 1 := by simp
  have hs2 : ((w.alloc zDay).alloc (.cells #[.slice A n c, .int .i64 0, .int .u64 0] 76)).heap.size = w.heap.size + 1 + 1 := by simp
  have hw0 := bAlloc (Below.refl w.heap.size w) zDay
  go_enter Tryd.func27, Tryd.ntmps27
  go_wp2_with fail
  refine (slots_any h (by omega)).mono ?_
  rintro e w1 ⟨D, q, z, L, rfl, hq, h1, o1, hN, hG⟩
  have hz1 := heap_kept hz hG (by omega)
  rw [hs] at o1
  go_wp2_with fail
  refine (day_any h1 (by omega)).mono ?_
  rintro e w2 ⟨a0, a1, a2, a3, rfl, h2, g2⟩
  have hz2 := heap_kept hz1 g2 (by omega)
  have o2 := o1.kept g2 (hN.ne (by rw [hs2]; omega))
  have hNr := hN.ne (g := w.heap.size) (by rw [hs2]; omega)
  have hB2 : Below w.heap.size w w2 := hw0.trans (h2.bel.mono hw0.size)
  clear h hz hz1 o1 hG g2 h1 hs hs2 hw0 h2
  generalize hrr : w.heap.size = r at *
  obtain ⟨⟨p0, p1, p2, p3⟩, p4, p5, p6, p7⟩ := blk4 hz2
  have Hr := Lib.hid hrr
  clear hz2 hrr
  go_wp2
  obtain ⟨x, hx⟩ := day_out Hr.out hB2 (.int .i64 a0) (.int .i64 a1) (.int .i64 a2) (.int .i64 a3)
  have o3 := (o2.day hNr (.int .i64 a0) (.int .i64 a1) (.int .i64 a2) (.int .i64 a3)).mono (show w.heap.size ≤ r + 1 by rw [Hr.out]; omega)
  rw [hx.out] at o3
  exact bodyPost_ret (v := .tuple #[.slice D q z, .agg #[.int .i64 a0, .int .i64 a1, .int .i64 a2, .int .i64 a3]]) (by simp [results, Tryd.results27, go_sem, *]) rfl ⟨D, q, z, L, a0, a1, a2, a3, x, rfl, hq, hx.out, o3⟩
set_option maxHeartbeats 4000000 in
theorem drawCuesBetween_any (w : World) (A : Option Addr) (n c : Nat) (l : List Int) (hr : RdY w A n l) (hn : n ≤ 9223372036854775807) :
    Calls Tryd.prog 35 #[.slice A n c] w (RetSDII w) := by
  obtain ⟨h, hz⟩ := cx_day (c := c) hr hn
  have hs : (w.alloc zDay).heap.size = w.heap.size + 1 := by simp
  have hs2 : ((w.alloc zDay).alloc (.cells #[.slice A n c, .int .i64 0, .int .u64 0] 76)).heap.size = w.heap.size + 1 + 1 := by simp
  have hw0 := bAlloc (Below.refl w.heap.size w) zDay
  go_enter Tryd.func35, Tryd.ntmps35
  go_wp2_with fail
  refine (slots_any h (by omega)).mono ?_
  rintro e w1 ⟨D, q, z, L, rfl, hq, h1, o1, hN, hG⟩
  have hz1 := heap_kept hz hG (by omega)
  rw [hs] at o1
  go_wp2_with fail
  refine (day_any h1 (by omega)).mono ?_
  rintro e w2 ⟨a0, a1, a2, a3, rfl, h2, g2⟩
  have hgl2 := h2.cur.lt
  have F3 : SD w (w2.alloc (.cells #[.int .i64 a0, .int .i64 a1, .int .i64 a2, .int .i64 a3] 53)) w.heap.size w2.heap.size A n c 1012 l D q z L a0 a1 a2 a3 :=
    have F2B := bAlloc (Below.refl w2.heap.size w2) (.cells #[.int .i64 a0, .int .i64 a1, .int .i64 a2, .int .i64 a3] 53)
    ⟨(h2.below F2B).mono (by omega), bAlloc (hw0.trans (h2.bel.mono hw0.size)) _, heap_old (heap_kept hz1 g2 (by omega)) F2B, heap_alloc_new w2 _, hgl2, (o1.kept g2 (hN.ne (by rw [hs2]; omega))).below F2B, hN.ne (by rw [hs2]; omega), hN.ne (by rw [hs2]; omega), hq⟩
  have hqb : q ≤ 1099511627776 := by omega
  clear h hz hz1 o1 hG g2 h1 hs hs2 hw0 h2 hN hgl2
  go_wp2_with fail
  generalize w2.alloc (.cells #[.int .i64 a0, .int .i64 a1, .int .i64 a2, .int .i64 a3] 53) = w3 at *
  generalize w2.heap.size = b at *
  generalize hrr : w.heap.size = r at *
  have Hr := Lib.hid hrr
  clear hrr
  obtain ⟨⟨q0, q1, q2, q3⟩, q4, q5, q6, q7⟩ := blk4 F3.hd
  have hlb3 : b < w3.heap.size := (Array.getElem?_eq_some_iff.1 F3.hd).1
  have F3d := F3.below (bDrew (Below.refl w3.heap.size w3))
  have S3d : ScS w3.drew r none 0 0 [] := ScS.nil_
  go_region_with (first | (go_at_call 88; ((with_reducible refine (clock_sd F3d S3d (by omega)).mono ?_); rintro e w' ⟨t1, rfl, F5, S5⟩; obtain ⟨⟨s0, s1, s2, s3⟩, s4, s5, s6, s7⟩ := blk4 F5.hd; obtain ⟨⟨u0, u1, u2, u3⟩, u4, u5, u6, u7⟩ := blk4 F5.hz; have hl4 := F5.ltR; have hl5 := F5.ltB)) | (go_at_call 88; ((with_reducible refine (clock_sd F5 S5 (by omega)).mono ?_); rintro e w' ⟨t2, rfl, F6, S6⟩; obtain ⟨⟨s0, s1, s2, s3⟩, s4, s5, s6, s7⟩ := blk4 F6.hd; obtain ⟨⟨u0, u1, u2, u3⟩, u4, u5, u6, u7⟩ := blk4 F6.hz; have hl4 := F6.ltR; have hl5 := F6.ltB)))
  all_goals
    have FZ := F6
    have SZ := S6
    obtain ⟨⟨p0, p1, p2, p3⟩, p4, p5, p6, p7⟩ := blk4 FZ.hz
    have hlr := (Array.getElem?_eq_some_iff.1 FZ.hz).1
    go_wp2
    obtain ⟨x, hx⟩ := day_out Hr.out FZ.bel (.int .i64 a0) (.int .i64 a1) (.int .i64 a2) (.int .i64 a3)
    have o9 := (FZ.oD.day FZ.nR (.int .i64 a0) (.int .i64 a1) (.int .i64 a2) (.int .i64 a3)).mono (show w.heap.size ≤ r + 1 by rw [Hr.out]; omega)
    have u9 := (SZ.o.day SZ.nR (.int .i64 a0) (.int .i64 a1) (.int .i64 a2) (.int .i64 a3)).mono (show w.heap.size ≤ r + 1 by rw [Hr.out]; omega)
    rw [hx.out] at o9 u9
    exact bodyPost_ret (v := .tuple #[.slice D q z, .agg #[.int .i64 a0, .int .i64 a1, .int .i64 a2, .int .i64 a3], .int .i64 t1, .int .i64 t2]) (by simp [results, Tryd.results35, go_sem, *]) rfl ⟨D, q, z, _, a0, a1, a2, a3, t1, t2, x, rfl, FZ.hq, hx.out, o9⟩
def RetCue (w : World) (e : Ending) (w' : World) : Prop := ∃ (t k s : Int) (x : World), e = .returned (.agg #[.int .i64 t, .int .i64 k, .int .i64 s]) ∧ w' = ext w x
theorem blk3 {w : World} {g ty : Nat} {x0 x1 x2 : Value} (h : w.heap[g]? = some (.cells #[x0, x1, x2] ty (0, 0))) : (w.cell? ⟨g, 0, none⟩ = some x0 ∧ w.cell? ⟨g, 1, none⟩ = some x1 ∧ w.cell? ⟨g, 2, none⟩ = some x2) ∧ w.frozen? ⟨g, 0, none⟩ = false ∧ w.frozen? ⟨g, 1, none⟩ = false ∧ w.frozen? ⟨g, 2, none⟩ = false := by
  refine ⟨⟨?_, ?_, ?_⟩, ?_, ?_, ?_⟩ <;> simp [World.cell?, World.frozen?, h]
theorem cue_out {w W : World} {r : Nat} (hr : w.heap.size = r) (hB : Below r w W) (x0 x1 x2 : Value) : ∃ x, Hid (((W.setCell ⟨r, 0, none⟩ x0).setCell ⟨r, 1, none⟩ x1).setCell ⟨r, 2, none⟩ x2 = ext w x) := by
  subst hr
  exact ext_ex (bSet (bSet (bSet hB (p := ⟨w.heap.size, 0, none⟩) (Nat.le_refl _) x0) (p := ⟨w.heap.size, 1, none⟩) (Nat.le_refl _) x1) (p := ⟨w.heap.size, 2, none⟩) (Nat.le_refl _) x2)
set_option maxHeartbeats 1000000 in
theorem drawCueText_any (w : World) (A : Option Addr) (n c : Nat) (l : List Int) (hr : RdY w A n l) (hn : n ≤ 9223372036854775807) :
    Calls Tryd.prog 41 #[.slice A n c] w (RetCue w) := by
  have hz := heap_alloc_new w (.cells #[.int .i64 0, .int .i64 0, .int .i64 0] 62)
  have hB := bAlloc (Below.refl w.heap.size w) (.cells #[.int .i64 0, .int .i64 0, .int .i64 0] 62)
  have hs : (w.alloc (.cells #[.int .i64 0, .int .i64 0, .int .i64 0] 62)).heap.size = w.heap.size + 1 := by simp
  have h := cx_new (c := c) (hr.below (bAlloc (Below.refl _ w) (.cells #[.int .i64 0, .int .i64 0, .int .i64 0] 62))) hn
  go_enter Tryd.func41, Tryd.ntmps41
  go_wp2_with fail
  generalize w.alloc (.cells #[.int .i64 0, .int .i64 0, .int .i64 0] 62) = w0 at *
  have hz0 := heap_old hz (bAlloc (Below.refl _ w0) (.cells #[.slice A n c, .int .i64 0, .int .u64 0] 76))
  have hs1 : (w0.alloc (.cells #[.slice A n c, .int .i64 0, .int .u64 0] 76)).heap.size = w.heap.size + 1 + 1 := by simp [hs]
  rw [hs] at h
  generalize w0.alloc (.cells #[.slice A n c, .int .i64 0, .int .u64 0] 76) = w1 at *
  refine (among_lit h (by omega) [0, 59, 60, 3599, 3600, 36330, 200000, 200001, -1] 9 _ hs1.symm rfl (by omega) (by omega) _ rfl 9).mono ?_
  rintro e w2 ⟨v2, hv2, rfl, h2, g2⟩
  have hz2 := heap_kept hz0 g2 (by omega)
  clear hv2
  go_wp2_with fail
  refine (pick_cx h2 6 (by omega) (by omega) (by omega)).mono ?_
  intro e w3 hp
  obtain ⟨v3, ⟨ha0, ha1⟩, rfl, h3, g3⟩ := h2.pick hp
  have hz3 := heap_kept hz2 g3 (by omega)
  clear hp
  go_wp2_with fail
  refine (among_lit h3 (by omega) [0, 1, 7, 999, 1000, -1] 6 _ rfl rfl (by omega) (by omega) _ rfl 6).mono ?_
  rintro e w4 ⟨v4, hv4, rfl, h4, g4⟩
  have hz4 := heap_kept hz3 g4 (by omega)
  have hB4 : Below w.heap.size w w4 := hB.trans (h4.bel.mono hB.size)
  clear hv4 hz hz0 hz2 hz3 g2 g3 g4 h h2 h3 h4 hs1 hB hr
  generalize hrr : w.heap.size = r at *
  obtain ⟨⟨p0, p1, p2⟩, p4, p5, p6⟩ := blk3 hz4
  have hlr : r < w4.heap.size := (Array.getElem?_eq_some_iff.1 hz4).1
  have Hr := Lib.hid hrr
  clear hz4 hrr hs
  go_wp2
  obtain ⟨x, hx⟩ := cue_out Hr.out hB4 (.int .i64 v2) (.int .i64 v3) (.int .i64 v4)
  exact bodyPost_ret (v := .agg #[.int .i64 v2, .int .i64 v3, .int .i64 v4]) (by simp [results, Tryd.results41, go_sem, *]) rfl ⟨v2, v3, v4, x, rfl, hx.out⟩
end Go.Proofs.YtpjaiihkgeabiaaDoor
