/- Slices of structs of three ints: how they read, and the contracts of the functions that copy, compare and mark them. Conditions: lengths below 2^40. -/
import Derived.Test.YtppcmnolkbobfaaLawKit
import Derived.StillTailTactics
set_option linter.unusedVariables false
set_option linter.unusedSimpArgs false
set_option maxRecDepth 100000
namespace Go.Proofs.Ytppcmnolkbobfaa
open Go.ChangeShapes Go.WideShapes Go.ChangeAt Go.RowKit
abbrev T3 := Int × Int × Int
def z3 : T3 := (0, 0, 0)
def tripCells (l : List T3) : List Value := l.flatMap fun p => [.int .i64 p.1, .int .i64 p.2.1, .int .i64 p.2.2]
theorem tripCells_cons (a : T3) (r : List T3) : tripCells (a :: r) = .int .i64 a.1 :: .int .i64 a.2.1 :: .int .i64 a.2.2 :: tripCells r := by simp [tripCells]
theorem tripCells_append (a b : List T3) : tripCells (a ++ b) = tripCells a ++ tripCells b := by simp [tripCells]
theorem tripCells_one (l : List T3) (v : Value) (h : v ∈ tripCells l) : v.oneCell' = true := by
  simp only [tripCells, List.mem_flatMap, List.mem_cons, List.not_mem_nil, or_false] at h
  obtain ⟨p, _, h⟩ := h
  rcases h with rfl | rfl | rfl <;> rfl
theorem tripCells_len (l : List T3) : (tripCells l).length = l.length * 3 := by
  induction l with
  | nil => rfl
  | cons a r ih => rw [tripCells_cons]; simp only [List.length_cons, ih]; omega
theorem tripCells_get (l : List T3) (k : Nat) (h : k < l.length) : (tripCells l)[k * 3]? = some (.int .i64 (l[k]?.getD z3).1) ∧ (tripCells l)[k * 3 + 1]? = some (.int .i64 (l[k]?.getD z3).2.1) ∧ (tripCells l)[k * 3 + 2]? = some (.int .i64 (l[k]?.getD z3).2.2) := by
  induction l generalizing k with
  | nil => simp at h
  | cons a r ih =>
    rw [tripCells_cons]
    cases k with
    | zero => simp
    | succ k =>
      have := ih k (by simpa using h)
      rw [show (k + 1) * 3 = k * 3 + 1 + 1 + 1 by omega, show k * 3 + 1 + 1 + 1 + 1 = (k * 3 + 1) + 1 + 1 + 1 by omega, show k * 3 + 1 + 1 + 1 + 2 = (k * 3 + 2) + 1 + 1 + 1 by omega]
      simpa only [List.getElem?_cons_succ] using this
/-- A slice of such structs reads as the list l. -/
def Rd3 (w : World) (A : Option Addr) (n : Nat) (l : List T3) : Prop := Rd 3 w A n (tripCells l)
section
variable {n : Nat} {w w' : World} {A : Option Addr} {l : List T3}
theorem Rd3.below (h : Rd3 w A n l) (hb : Below w.heap.size w w') : Rd3 w' A n l := Rd.below h hb
theorem Rd3.len (h : Rd3 w A n l) : l.length = n := by have := h.1; rw [tripCells_len] at this; omega
theorem Rd3.at_ (h : Rd3 w A n l) (k : Nat) (hk : k < n) : ∃ b off, A = some ⟨b, off, none⟩ ∧ b < w.heap.size ∧ w.cell? ⟨b, off + k * 3, none⟩ = some (.int .i64 (l[k]?.getD z3).1) ∧ w.cell? ⟨b, off + k * 3 + 1, none⟩ = some (.int .i64 (l[k]?.getD z3).2.1) ∧ w.cell? ⟨b, off + k * 3 + 2, none⟩ = some (.int .i64 (l[k]?.getD z3).2.2) := by
  have hl := h.len
  obtain ⟨b, off, e, hlt, hc⟩ := h.2 (by omega)
  obtain ⟨g0, g1, g2⟩ := tripCells_get l k (by omega)
  exact ⟨b, off, e, hlt, hc _ _ g0, hc (k * 3 + 1) _ g1, hc (k * 3 + 2) _ g2⟩
theorem tripCells_take (l : List T3) (k : Nat) : tripCells (l.take k) = (tripCells l).take (k * 3) := by
  induction l generalizing k with
  | nil => simp [tripCells]
  | cons a r ih =>
    cases k with
    | zero => simp [tripCells]
    | succ k =>
      rw [tripCells_cons, show (k + 1) * 3 = k * 3 + 1 + 1 + 1 by omega]
      simp only [List.take_succ_cons, ← ih, tripCells_cons]
theorem Rd3.take_ (h : Rd3 w A n l) (k : Nat) (hk : k ≤ n) : Rd3 w A k (l.take k) := by
  unfold Rd3
  rw [tripCells_take]
  exact Rd.take_ h k hk
theorem Rd3.nil_ : Rd3 w A 0 [] := ⟨by simp [tripCells], fun h => absurd h (by omega)⟩
end
/-- A row of such structs (of type e) of the call's own. -/
def Ow3 (e base : Nat) (w : World) (A : Option Addr) (n c : Nat) (l : List T3) : Prop := Ow e 3 base w A n c (tripCells l)
theorem tripCells_set (m : List T3) (k : Nat) (a b d : Int) (h : k < m.length) : (((tripCells m).set (k * 3) (.int .i64 a)).set (k * 3 + 1) (.int .i64 b)).set (k * 3 + 2) (.int .i64 d) = tripCells (m.set k (a, b, d)) := by
  induction m generalizing k with
  | nil => simp at h
  | cons p r ih =>
    rw [tripCells_cons]
    cases k with
    | zero => simp [tripCells_cons]
    | succ k =>
      rw [show (k + 1) * 3 = k * 3 + 1 + 1 + 1 by omega, show k * 3 + 1 + 1 + 1 + 1 = (k * 3 + 1) + 1 + 1 + 1 by omega, show k * 3 + 1 + 1 + 1 + 2 = (k * 3 + 2) + 1 + 1 + 1 by omega]
      simp only [List.set_cons_succ]
      rw [ih k (by simpa using h), tripCells_cons]
theorem tripCells_replicate (n : Nat) : tripCells (List.replicate n z3) = List.replicate (n * 3) (.int .i64 0) := by
  induction n with
  | zero => rfl
  | succ n ih => rw [List.replicate_succ, tripCells_cons, ih, show (n + 1) * 3 = n * 3 + 1 + 1 + 1 by omega, List.replicate_succ, List.replicate_succ, List.replicate_succ]; rfl
theorem trips_made (n : Nat) : (madeCells (Value.agg #[.int .i64 0, .int .i64 0, .int .i64 0]).cells (n * 3)).toList = tripCells (List.replicate n z3) := by
  rw [tripCells_replicate]
  apply List.ext_getElem?
  intro i
  by_cases h : i < n * 3
  · have h2 : i % 3 = 0 ∨ i % 3 = 1 ∨ i % 3 = 2 := by omega
    rcases h2 with h2 | h2 | h2 <;> simp [madeCells, h, Value.cells, h2]
  · simp [madeCells, h]
section
variable {e base base' n c : Nat} {w w' : World} {A : Option Addr} {l : List T3}
theorem Ow3.len (h : Ow3 e base w A n c l) : l.length = n := by have := Ow.len h; rw [tripCells_len] at this; omega
theorem Ow3.below (h : Ow3 e base w A n c l) (hb : Below w.heap.size w w') : Ow3 e base w' A n c l := Ow.below h hb
theorem Ow3.kept {row : Option Nat} (h : Ow3 e base w A n c l) (hg : w.grownBy w' row) (hne : blkOf A = none ∨ blkOf A ≠ row) : Ow3 e base w' A n c l := Ow.kept h hg hne
theorem Ow3.mono (h : Ow3 e base w A n c l) (hb : base' ≤ base) : Ow3 e base' w A n c l := Ow.mono h hb
theorem Ow3.nil_ : Ow3 e base w none 0 0 [] := Ow.nil_
theorem Ow3.rd (h : Ow3 e base w A n c l) : Rd3 w A n l := Ow.rd h
theorem Ow3.cap_ (h : Ow3 e base w A n c l) : n ≤ c ∧ c ≤ maxLen := Ow.cap_ h
theorem bd3 (h : Ow3 e base w A n c l) (hl : l.length ≤ 1048576) : n ≤ 1099511627776 := by have := h.len; omega
theorem Ow3.blk (h : Ow3 e base w A n c l) {g : Nat} (hA : blkOf A = some g) : base ≤ g ∧ g < w.heap.size := Ow.blk h hA
theorem Ow3.form_ (h : Ow3 e base w A n c l) (hn : 0 < n) : ∃ g, A = some ⟨g, 0, none⟩ ∧ base ≤ g ∧ g < w.heap.size := Ow.form_ h hn
theorem Ow3.cell_ {g : Nat} (h : Ow3 e base w (some ⟨g, 0, none⟩) n c l) (k : Nat) (hk : k < n) : w.cell? ⟨g, k * 3, none⟩ = some (.int .i64 (l[k]?.getD z3).1) ∧ w.cell? ⟨g, k * 3 + 1, none⟩ = some (.int .i64 (l[k]?.getD z3).2.1) ∧ w.cell? ⟨g, k * 3 + 2, none⟩ = some (.int .i64 (l[k]?.getD z3).2.2) := by
  have hl := h.len
  rw [Ow.cell_ h _ (by omega), Ow.cell_ h _ (by omega), Ow.cell_ h _ (by omega)]
  exact tripCells_get l k (by omega)
theorem Ow3.frozen_ {g : Nat} (h : Ow3 e base w (some ⟨g, 0, none⟩) n c l) (j : Nat) : w.frozen? ⟨g, j, none⟩ = false := Ow.frozen_ h j
theorem Ow3.stored_ {g : Nat} (h : Ow3 e base w (some ⟨g, 0, none⟩) n c l) (k : Nat) (hk : k < n) (a b d : Int) :
    Ow3 e base (((w.setCell ⟨g, k * 3, none⟩ (.int .i64 a)).setCell ⟨g, k * 3 + 1, none⟩ (.int .i64 b)).setCell ⟨g, k * 3 + 2, none⟩ (.int .i64 d)) (some ⟨g, 0, none⟩) n c (l.set k (a, b, d)) ∧
    w.grownBy (((w.setCell ⟨g, k * 3, none⟩ (.int .i64 a)).setCell ⟨g, k * 3 + 1, none⟩ (.int .i64 b)).setCell ⟨g, k * 3 + 2, none⟩ (.int .i64 d)) (some g) := by
  have h1 := Ow.stored_ h (k * 3) (.int .i64 a)
  have h2 := Ow.stored_ h1.1 (k * 3 + 1) (.int .i64 b)
  have h3 := Ow.stored_ h2.1 (k * 3 + 2) (.int .i64 d)
  rw [tripCells_set _ _ _ _ _ (by rw [h.len]; exact hk)] at h3
  exact ⟨h3.1, (h1.2.trans h2.2).trans h3.2⟩
end
/-- What a function that hands back such structs in new memory ends with. -/
def Ret3 (e : Nat) (w : World) (l : List T3) (E : Ending) (w' : World) : Prop := ∃ A n c x, E = .returned (.slice A n c) ∧ w' = ext w x ∧ Ow3 e w.heap.size (ext w x) A n c l
theorem Ret3.mk_ {e : Nat} {w W : World} {base : Nat} {A : Option Addr} {n c : Nat} {l : List T3} (ho : Ow3 e base W A n c l) (hbase : w.heap.size ≤ base) (hb : Below w.heap.size w W) : Ret3 e w l (.returned (.slice A n c)) W := by
  obtain ⟨x, rfl⟩ := ext_ex hb
  exact ⟨A, n, c, x, rfl, rfl, ho.mono hbase⟩
def marks3 (q : Int) (n : Nat) : List T3 := (List.range n).map fun (i : Nat) => (q + 3 * i, q + 3 * i + 1, q + 3 * i + 2)
theorem marks3_step (q : Int) (l : List T3) (k : Nat) (h : k < l.length) : (marks3 q k ++ l.drop k).set k (q + 3 * k, q + 3 * k + 1, q + 3 * k + 2) = marks3 q (k + 1) ++ l.drop (k + 1) := by
  have e : (marks3 q k).length = k := by simp [marks3]
  rw [List.set_append_right _ _ (by omega), e, Nat.sub_self, List.drop_eq_getElem_cons h, List.set_cons_zero]
  simp [marks3, List.range_succ]
theorem eqOfficial_any (a b c a' b' c' : Int) (w : World) :
    Calls Try.prog 152 #[.agg #[.int .i64 a, .int .i64 b, .int .i64 c], .agg #[.int .i64 a', .int .i64 b', .int .i64 c']] w fun e w' => e = .returned (.bool (((a, b, c) : T3) == (a', b', c'))) ∧ ∃ x, w' = ext w x := by
  have e : (((a, b, c) : T3) == (a', b', c')) = (a == a' && (b == b' && c == c')) := rfl
  rw [e]
  go_enter Try.func152, Try.ntmps152
  go_wp2
  all_goals go_ret
  all_goals exact ⟨by simp_all, ext_ex (by repeat (first | exact Below.refl _ _ | assumption | refine bExt ?_ _ | refine bAlloc ?_ _ | refine bDrewN ?_ _ | refine bDrew ?_ | refine bSet ?_ (by first | exact Nat.le_refl _ | omega | (simp; done) | (simp; omega)) _))⟩
set_option maxHeartbeats 400000 in
theorem eqOfficialS_any (w : World) (A B : Option Addr) (n m c d : Nat) (l : List T3) (ha : Rd3 w A n l) (hb : Rd3 w B m l) (hn : n ≤ 1099511627776) :
    Calls Try.prog 72 #[.slice A n c, .slice B m d] w fun e w' => e = .returned (.bool true) ∧ ∃ x, w' = ext w x := by
  obtain rfl : n = m := ha.len.symm.trans hb.len
  go_enter Try.func72, Try.ntmps72
  go_wp2
  go_loopw [5] (fun i wr => ∃ k x, k ≤ n ∧ i = .int .i64 (k : Nat) ∧ wr = ext w x) (fun i _ => n - (intOf i).toNat)
  case atStart => exact ⟨0, _, Nat.zero_le _, rfl, ext_self w⟩
  case round =>
    obtain ⟨k, x, hk, rfl, rfl⟩ := hrel
    by_cases hlt : k < n
    · obtain ⟨b1, o1, rfl, hb1, hc1, hd1, he1⟩ := ha.at_ k hlt
      obtain ⟨b2, o2, rfl, hb2, hc2, hd2, he2⟩ := hb.at_ k hlt
      go_wp2
      go_still_tail 8, (by kernel_rfl)
      change wpList _ _ _ _ _ (ext w x).drew
      go_wp2_with (go_at_call 152; ((with_reducible refine (eqOfficial_any _ _ _ _ _ _ _).mono ?_); rintro e w' ⟨rfl, y, rfl⟩))
      go_roundw
      case rel => exact ⟨k + 1, _, by omega, by go_num, (ext_ex (by repeat (first | exact Below.refl _ _ | assumption | refine bExt ?_ _ | refine bAlloc ?_ _ | refine bDrewN ?_ _ | refine bDrew ?_ | refine bSet ?_ (by first | exact Nat.le_refl _ | omega | (simp; done) | (simp; omega)) _))).choose_spec⟩
      case measure => simp [intOf]; omega
    · go_wp2
      go_ret
      exact ⟨rfl, _, rfl⟩
theorem toOfficial_any (a b c : Int) (w : World) :
    Calls Try.prog 146 #[.agg #[.int .i64 a, .int .i64 b, .int .i64 c]] w fun e w' => e = .returned (.agg #[.int .i64 a, .int .i64 b, .int .i64 c]) ∧ ∃ x, w' = ext w x := by
  go_enter Try.func146, Try.ntmps146
  go_wp2
  exact bodyPost_ret (v := .agg #[.int .i64 a, .int .i64 b, .int .i64 c]) (by simp [results, Try.results146, go_sem]) rfl ⟨rfl, ext_ex (by repeat (first | exact Below.refl _ _ | assumption | refine bExt ?_ _ | refine bAlloc ?_ _ | refine bDrewN ?_ _ | refine bDrew ?_ | refine bSet ?_ (by first | exact Nat.le_refl _ | omega | (simp; done) | (simp; omega)) _))⟩
theorem Official_info : (Try.prog.info? 133).map (fun i => (i.zero, i.size, i.bytes)) = some (some (.agg #[.int .i64 0, .int .i64 0, .int .i64 0]), 3, 24) := by kernel_rfl
set_option maxHeartbeats 400000 in
theorem toOfficialS_any (w : World) (A : Option Addr) (n c : Nat) (l : List T3) (ha : Rd3 w A n l) (hn : n ≤ 1099511627776) :
    Calls Try.prog 69 #[.slice A n c] w (Ret3 133 w l) := by
  obtain ⟨i0, hi0, hz0, hz1, hz2⟩ := info_parts Official_info
  have Hl := Lib.hid ha.len
  go_enter Try.func69, Try.ntmps69
  go_wp2_with (at_make; refine wpList_make_full w rfl _ _ _ rfl w.heap.size 133 i0 _ 3 Try.underlying81 hi0 hz0 hz1 .i64 .i64 _ _ n rfl rfl rfl rfl (by rw [hz2]; omega) (by simp only [maxLen]; omega) (Nat.le_refl _) ?_; intro w1 hown1 hg1)
  have hb1 : Below w.heap.size w w1 := below_grown (Below.refl _ _) hg1 (by simp)
  rw [trips_made] at hown1
  have o1 : Ow3 133 w.heap.size w1 (some ⟨w.heap.size, 0, none⟩) n n (fillL l 0 n z3) := by rw [fillL_zero]; exact hown1
  clear hown1 hg1
  obtain ⟨x1, rfl⟩ := ext_ex hb1
  go_loopw [4] (fun i wr => ∃ (k : Nat) (x : World), k ≤ n ∧ i = .int .i64 k ∧ wr = ext w x ∧ Ow3 133 w.heap.size (ext w x) (some ⟨w.heap.size, 0, none⟩) n n (fillL l k n z3)) (fun i _ => n - (intOf i).toNat)
  case atStart => exact ⟨0, x1, by omega, rfl, rfl, o1⟩
  case round =>
    obtain ⟨k, x, hk, rfl, rfl, ho⟩ := hrel
    by_cases hlt : k < n
    · obtain ⟨b, off, rfl, hb, hc0, hc1, hc2⟩ := ha.at_ k hlt
      have HF := Lib.hid (fillL_step l k n z3 Hl.out hlt)
      go_wp2_with (go_at_call 146; ((with_reducible refine (toOfficial_any _ _ _ _).mono ?_); rintro e w' ⟨rfl, y, rfl⟩; have ho2 := ho.below (ext_below _ y); have hcc := ho2.cell_ k hlt; obtain ⟨hcc0, hcc1, hcc2⟩ := hcc; have hff0 := ho2.frozen_ (k * 3); have hff1 := ho2.frozen_ (k * 3 + 1); have hff2 := ho2.frozen_ (k * 3 + 2)))
      have hst := ho2.stored_ k hlt (l[k]?.getD z3).1 (l[k]?.getD z3).2.1 (l[k]?.getD z3).2.2
      rw [HF.out] at hst
      have hbn : Below w.heap.size w ((((ext (ext w x) y).setCell ⟨w.heap.size, k * 3, none⟩ (.int .i64 (l[k]?.getD z3).1)).setCell ⟨w.heap.size, k * 3 + 1, none⟩ (.int .i64 (l[k]?.getD z3).2.1)).setCell ⟨w.heap.size, k * 3 + 2, none⟩ (.int .i64 (l[k]?.getD z3).2.2)) := by repeat (first | exact Below.refl _ _ | assumption | refine bExt ?_ _ | refine bAlloc ?_ _ | refine bDrewN ?_ _ | refine bDrew ?_ | refine bSet ?_ (by first | exact Nat.le_refl _ | omega | (simp; done) | (simp; omega)) _)
      obtain ⟨z, hz⟩ := ext_ex hbn
      go_roundw
      case rel => exact ⟨k + 1, z, by omega, by go_num, hz, by rw [← hz]; exact hst.1⟩
      case measure => simp [intOf]; omega
    · have hkn := Lib.hid (show k = n by omega)
      go_wp2
      go_ret
      rw [hkn.out, fillL_end _ _ _ Hl.out] at ho
      exact Ret3.mk_ ho (Nat.le_refl _) (ext_below _ _)
theorem szOfficialS_any (w : World) (A : Option Addr) (n c : Nat) (left : Int) (hl : 0 ≤ left) (hl2 : left ≤ 1099511627776) (hn : n ≤ 9223372036854775807) :
    Calls Try.prog 67 #[.slice A n c, .int .i64 left] w fun e w' => e = .returned (.int .i64 (if left < n then -1 else left - n)) ∧ w = w' := by
  by_cases h : left < n
  · rw [if_pos h]
    go_enter Try.func67, Try.ntmps67
    go_wp2
    go_ret
    exact ⟨rfl, rfl⟩
  · rw [if_neg h]
    go_enter Try.func67, Try.ntmps67
    go_wp2
    go_ret
    exact ⟨rfl, rfl⟩
theorem open_RdOfficial {H : Type} {enc : TypeId × Value → H} {W : World} {r : Reach} {base : Nat} {v : Value} {d : DataW H} {p : List MemPlace}
    (hv : Value.okWide Try.prog W r base 78 v) (h : DataW.Trod enc Try.prog W 0 (fun _ => true) true 78 v d p) :
    ∃ A n c l, v = .slice A n c ∧ Rd3 W A n l ∧ n ≤ c ∧ c ≤ maxLen := by
  obtain ⟨A, n, c, L, rfl, hnc, hcm, hL, hrow, hc⟩ := open_rows Try.underlying78 Try.underlying135 Try.underlying3 (by kernel_rfl) (by kernel_rfl) (fun j f hf => by
    match j with
    | 0 => simp at hf; rw [← hf]
    | 1 => simp at hf; rw [← hf]
    | 2 => simp at hf; rw [← hf]
    | j + 3 => simp at hf) (by simp) hv h
  refine ⟨A, n, c, L.map fun r => (r[0]?.getD 0, r[1]?.getD 0, r[2]?.getD 0), rfl, ⟨by rw [tripCells_len]; simp [hL], fun hn => ?_⟩, hnc, hcm⟩
  obtain ⟨b, off, e, hb, hcell⟩ := hc hn
  refine ⟨b, off, e, hb, fun j u hu => ?_⟩
  have hj : j < n * 3 := by
    have := (List.getElem?_eq_some_iff.1 hu).1
    rw [tripCells_len] at this; simpa [hL] using this
  obtain ⟨g0, g1, g2⟩ := tripCells_get (L.map fun r => ((r[0]?.getD 0, r[1]?.getD 0, r[2]?.getD 0) : T3)) (j / 3) (by simp [hL]; omega)
  have hlk : j / 3 < L.length := by omega
  rcases (show j % 3 = 0 ∨ j % 3 = 1 ∨ j % 3 = 2 by omega) with e0 | e0 | e0
  · rw [show j = j / 3 * 3 by omega, g0] at hu
    have := hcell (j / 3) 0 (by omega) (by simp)
    simp only [Array.size, List.length_cons, List.length_nil] at this
    rw [show off + j = off + (j / 3 * (0 + 1 + 1 + 1) + 0) by omega, this, ← hu]
    simp [hlk]
  · rw [show j = j / 3 * 3 + 1 by omega, g1] at hu
    have := hcell (j / 3) 1 (by omega) (by simp)
    simp only [Array.size, List.length_cons, List.length_nil] at this
    rw [show off + j = off + (j / 3 * (0 + 1 + 1 + 1) + 1) by omega, this, ← hu]
    simp [hlk]
  · rw [show j = j / 3 * 3 + 2 by omega, g2] at hu
    have := hcell (j / 3) 2 (by omega) (by simp)
    simp only [Array.size, List.length_cons, List.length_nil] at this
    rw [show off + j = off + (j / 3 * (0 + 1 + 1 + 1) + 2) by omega, this, ← hu]
    simp [hlk]
end Go.Proofs.Ytppcmnolkbobfaa
