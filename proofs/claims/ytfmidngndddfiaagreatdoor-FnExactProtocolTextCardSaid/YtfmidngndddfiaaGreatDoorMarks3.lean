/- Equality and marking of slices of slices of ints and of Marks in the law file; opening of such arguments. Conditions: lengths below 2^40. -/
import Derived.Test.YtfmidngndddfiaaGreatDoorMarks2
set_option linter.unusedVariables false
set_option linter.unusedSimpArgs false
set_option maxRecDepth 100000
namespace Go.Proofs.YtfmidngndddfiaaGreatDoor
open Go.ChangeShapes Go.WideShapes Go.ChangeAt Go.RowKit
set_option maxHeartbeats 400000 in
theorem eqIntSS_any (w : World) (A B : Option Addr) (n m c d : Nat) (ll : List (List Int)) (ha : RdM w A n ll) (hb : RdM w B m ll) (hn : n ≤ 1099511627776) (hrows : ∀ j, j < n → (ll[j]?.getD []).length ≤ 1099511627776) :
    Calls Tryz.prog 68 #[.slice A n c, .slice B m d] w fun e w' => e = .returned (.bool true) ∧ ∃ x, w' = ext w x := by
  have Hl := Lib.hid ha.len
  obtain rfl : n = m := ha.len.symm.trans hb.len
  go_enter Tryz.func68, Tryz.ntmps68
  go_wp2
  go_loopw [5] (fun i wr => ∃ k x, k ≤ n ∧ i = .int .i64 (k : Nat) ∧ wr = ext w x) (fun i _ => n - (intOf i).toNat)
  case atStart => exact ⟨0, _, Nat.zero_le _, rfl, (ext_self w)⟩
  case round =>
    obtain ⟨k, x, hk, rfl, rfl⟩ := hrel
    by_cases hlt : k < n
    · obtain ⟨b1, o1, rfl, hb1, hc1⟩ := ha.2 (by omega)
      obtain ⟨b2, o2, rfl, hb2, hc2⟩ := hb.2 (by omega)
      obtain ⟨B1, m1, d1, hk1, hr1, _, _⟩ := hc1 k hlt
      obtain ⟨B2, m2, d2, hk2, hr2, _, _⟩ := hc2 k hlt
      have hmb : m1 ≤ 1099511627776 := by have := hrows k hlt; rw [hr1.len] at this; exact this
      clear hc1 hc2
      generalize ll[k]?.getD [] = lk at *
      have hbe : (lk == lk) = true := by simp
      go_wp2
      go_region_held3 (fun w' => w'.cell? ⟨b1, o1 + k, none⟩ = some (.slice B1 m1 d1) ∧ w'.cell? ⟨b2, o2 + k, none⟩ = some (.slice B2 m2 d2)) (first | (refine ⟨?_, ?_⟩ <;> simp [go_sem, hb1, hb2, hk1, hk2]; done))
        (first
          | (go_at_call 34; ((with_reducible refine (eqIntS_any _ _ _ _ _ _ _ _ _ (hr1.below (by repeat (first | exact Below.refl _ _ | assumption | refine bExt ?_ _ | refine bAlloc ?_ _ | refine bDrewN ?_ _ | refine bDrew ?_ | refine bSet ?_ (by first | exact Nat.le_refl _ | omega | (simp; done) | (simp; omega)) _))) (hr2.below (by repeat (first | exact Below.refl _ _ | assumption | refine bExt ?_ _ | refine bAlloc ?_ _ | refine bDrewN ?_ _ | refine bDrew ?_ | refine bSet ?_ (by first | exact Nat.le_refl _ | omega | (simp; done) | (simp; omega)) _))) hmb).mono ?_); rintro e w' ⟨rfl, y, rfl⟩)))
      go_wp2
      go_roundw
      case rel => exact ⟨k + 1, _, by omega, by go_num, (ext_ex (by repeat (first | exact Below.refl _ _ | assumption | refine bExt ?_ _ | refine bAlloc ?_ _ | refine bDrewN ?_ _ | refine bDrew ?_ | refine bSet ?_ (by first | exact Nat.le_refl _ | omega | (simp; done) | (simp; omega)) _))).choose_spec⟩
      case measure => simp [intOf]; omega
    · go_wp2
      go_ret
      exact ⟨rfl, _, rfl⟩
theorem szMarks_any (w : World) (A B : Option Addr) (n m c d : Nat) (left : Int) (gg kk : List (List Int)) (hl : 0 ≤ left) (hl2 : left ≤ 1099511627776) (hn : n ≤ 9223372036854775807) (hm : m ≤ 9223372036854775807) (ha : RdM w A n gg) (hb : RdM w B m kk) :
    Calls Tryz.prog 21 #[.agg #[.slice A n c, .slice B m d], .int .i64 left] w fun e w' => e = .returned (.int .i64 (szW left (mTotal gg + mTotal kk))) ∧ ∃ x, w' = ext w x := by
  have hg := mTotal_ge gg
  have hk := mTotal_ge kk
  by_cases h1 : left < mTotal gg
  · have e1 : szW left (mTotal gg) = -1 := by rw [szW, if_pos h1]
    have e2 : szW left (mTotal gg + mTotal kk) = -1 := by rw [szW, if_pos (by omega)]
    rw [e2]
    have c1 := szIntSS_any (w.alloc (.cells #[.slice A n c, .slice B m d] 29)) A n c left hl hl2 hn gg (ha.below (by repeat (first | exact Below.refl _ _ | assumption | refine bExt ?_ _ | refine bAlloc ?_ _ | refine bDrewN ?_ _ | refine bDrew ?_ | refine bSet ?_ (by first | exact Nat.le_refl _ | omega | (simp; done) | (simp; omega)) _)))
    rw [e1] at c1
    go_enter Tryz.func21, Tryz.ntmps21
    go_wp2_with (first | (go_at_call 48; ((with_reducible refine (c1).mono ?_); rintro e w' ⟨rfl, rfl⟩)))
    go_ret
    exact ⟨rfl, ext_ex (by repeat (first | exact Below.refl _ _ | assumption | refine bExt ?_ _ | refine bAlloc ?_ _ | refine bDrewN ?_ _ | refine bDrew ?_ | refine bSet ?_ (by first | exact Nat.le_refl _ | omega | (simp; done) | (simp; omega)) _))⟩
  · have e1 : szW left (mTotal gg) = left - mTotal gg := by rw [szW, if_neg h1]
    have c1 := szIntSS_any (w.alloc (.cells #[.slice A n c, .slice B m d] 29)) A n c left hl hl2 hn gg (ha.below (by repeat (first | exact Below.refl _ _ | assumption | refine bExt ?_ _ | refine bAlloc ?_ _ | refine bDrewN ?_ _ | refine bDrew ?_ | refine bSet ?_ (by first | exact Nat.le_refl _ | omega | (simp; done) | (simp; omega)) _)))
    rw [e1] at c1
    have hnn : ¬ left - mTotal gg < 0 := by omega
    have c2 := szIntSS_any (w.alloc (.cells #[.slice A n c, .slice B m d] 29)) B m d (left - mTotal gg) (by omega) (by omega) hm kk (hb.below (by repeat (first | exact Below.refl _ _ | assumption | refine bExt ?_ _ | refine bAlloc ?_ _ | refine bDrewN ?_ _ | refine bDrew ?_ | refine bSet ?_ (by first | exact Nat.le_refl _ | omega | (simp; done) | (simp; omega)) _)))
    by_cases h2 : left - mTotal gg < mTotal kk
    · have e2 : szW (left - mTotal gg) (mTotal kk) = -1 := by rw [szW, if_pos h2]
      have e3 : szW left (mTotal gg + mTotal kk) = -1 := by rw [szW, if_pos (by omega)]
      rw [e2] at c2
      rw [e3]
      generalize mTotal gg = tg at *
      go_enter Tryz.func21, Tryz.ntmps21
      go_wp2_with (first | (go_at_call 48; ((with_reducible refine (c1).mono ?_); rintro e w' ⟨rfl, rfl⟩)) | (go_at_call 48; ((with_reducible refine (c2).mono ?_); rintro e w' ⟨rfl, rfl⟩)))
      go_ret
      exact ⟨rfl, ext_ex (by repeat (first | exact Below.refl _ _ | assumption | refine bExt ?_ _ | refine bAlloc ?_ _ | refine bDrewN ?_ _ | refine bDrew ?_ | refine bSet ?_ (by first | exact Nat.le_refl _ | omega | (simp; done) | (simp; omega)) _))⟩
    · have e2 : szW (left - mTotal gg) (mTotal kk) = left - mTotal gg - mTotal kk := by rw [szW, if_neg h2]
      have e3 : szW left (mTotal gg + mTotal kk) = left - mTotal gg - mTotal kk := by rw [szW, if_neg (by omega)]; omega
      rw [e2] at c2
      rw [e3]
      have hn2 : ¬ left - mTotal gg - mTotal kk < 0 := by omega
      generalize mTotal gg = tg at *
      generalize mTotal kk = tk at *
      go_enter Tryz.func21, Tryz.ntmps21
      go_wp2_with (first | (go_at_call 48; ((with_reducible refine (c1).mono ?_); rintro e w' ⟨rfl, rfl⟩)) | (go_at_call 48; ((with_reducible refine (c2).mono ?_); rintro e w' ⟨rfl, rfl⟩)))
      go_ret
      exact ⟨rfl, ext_ex (by repeat (first | exact Below.refl _ _ | assumption | refine bExt ?_ _ | refine bAlloc ?_ _ | refine bDrewN ?_ _ | refine bDrew ?_ | refine bSet ?_ (by first | exact Nat.le_refl _ | omega | (simp; done) | (simp; omega)) _))⟩
theorem gSetM (w : World) (g k : Nat) (v : Value) : w.grownBy (w.setCell ⟨g, k, none⟩ v) (some g) :=
  ⟨rfl, rfl, rfl, by simp [World.setCell], fun j _ hne => Below.heap_setCell w ⟨g, k, none⟩ v j (fun e => hne (by rw [e]))⟩
/-- OwM with all its blocks in [base, hi). -/
def OwMB (base hi : Nat) (w : World) (A : Option Addr) (n c : Nat) (ll : List (List Int)) : Prop :=
  ll.length = n ∧ ∃ (B : Nat → Option Addr) (m d : Nat → Nat), (Ow 23 1 base w A n c ((List.range n).map fun j => .slice (B j) (m j) (d j)) ∧
    (∀ j, j < n → OwI base w (B j) (m j) (d j) (ll[j]?.getD []) ∧ (blkOf (B j) = none ∨ blkOf (B j) ≠ blkOf A)) ∧ ∀ i j, i < n → j < n → i ≠ j → (blkOf (B i) = none ∨ blkOf (B i) ≠ blkOf (B j))) ∧
    (∀ z, blkOf A = some z → z < hi) ∧ ∀ j, j < n → ∀ z, blkOf (B j) = some z → z < hi
section
variable {base hi n c : Nat} {w w' : World} {A : Option Addr} {ll : List (List Int)}
theorem OwMB.toM (h : OwMB base hi w A n c ll) : OwM base w A n c ll := by obtain ⟨h1, B, m, d, h2, _⟩ := h; exact ⟨h1, B, m, d, h2⟩
theorem OwM.toB (h : OwM base w A n c ll) : OwMB base w.heap.size w A n c ll := by
  obtain ⟨h1, B, m, d, h2, h3, h4⟩ := h
  exact ⟨h1, B, m, d, ⟨h2, h3, h4⟩, fun z hz => (h2.blk hz).2, fun j hj z hz => ((h3 j hj).1.blk hz).2⟩
theorem OwMB.below (h : OwMB base hi w A n c ll) (hb : Below w.heap.size w w') : OwMB base hi w' A n c ll := by
  obtain ⟨h1, B, m, d, ⟨h2, h3, h4⟩, h5⟩ := h
  exact ⟨h1, B, m, d, ⟨h2.below hb, fun j hj => ⟨(h3 j hj).1.below hb, (h3 j hj).2⟩, h4⟩, h5⟩
theorem OwMB.mono {base' hi' : Nat} (h : OwMB base hi w A n c ll) (h1 : base' ≤ base) (h2 : hi ≤ hi') : OwMB base' hi' w A n c ll := by
  obtain ⟨g1, B, m, d, ⟨g2, g3, g4⟩, g5, g6⟩ := h
  exact ⟨g1, B, m, d, ⟨g2.mono h1, fun j hj => ⟨(g3 j hj).1.mono h1, (g3 j hj).2⟩, g4⟩, fun z hz => Nat.lt_of_lt_of_le (g5 z hz) h2, fun j hj z hz => Nat.lt_of_lt_of_le (g6 j hj z hz) h2⟩
/-- A write elsewhere leaves it. -/
theorem OwMB.kept {g : Nat} (h : OwMB base hi w A n c ll) (hg : w.grownBy w' (some g)) (hne : g < base ∨ hi ≤ g) : OwMB base hi w' A n c ll := by
  obtain ⟨g1, B, m, d, ⟨g2, g3, g4⟩, g5, g6⟩ := h
  have hA : blkOf A = none ∨ blkOf A ≠ some g := by
    cases hB : blkOf A with
    | none => exact .inl rfl
    | some z => exact .inr fun hh => by cases hh; have := (g2.blk hB).1; have := g5 _ hB; omega
  have hR : ∀ j, j < n → blkOf (B j) = none ∨ blkOf (B j) ≠ some g := fun j hj => by
    cases hB : blkOf (B j) with
    | none => exact .inl rfl
    | some z => exact .inr fun hh => by cases hh; have := ((g3 j hj).1.blk hB).1; have := g6 j hj _ hB; omega
  exact ⟨g1, B, m, d, ⟨g2.kept hg hA, fun j hj => ⟨(g3 j hj).1.kept hg (hR j hj), (g3 j hj).2⟩, g4⟩, g5, g6⟩
theorem OwMB.set {g k : Nat} {v : Value} (h : OwMB base hi w A n c ll) (hne : g < base ∨ hi ≤ g) : OwMB base hi (w.setCell ⟨g, k, none⟩ v) A n c ll := h.kept (gSetM w g k v) hne
end
/-- What toMarks hands back: two tables of the call's own, the second's blocks behind the first's. -/
def RetMarks (w : World) (gg kk : List (List Int)) (e : Ending) (w' : World) : Prop := ∃ A n c B m d x mid, e = .returned (.agg #[.slice A n c, .slice B m d]) ∧ w' = ext w x ∧ OwMB w.heap.size mid (ext w x) A n c gg ∧ OwMB mid (ext w x).heap.size (ext w x) B m d kk ∧ w.heap.size ≤ mid
set_option maxHeartbeats 400000 in
theorem toMarks_any (w : World) (A B : Option Addr) (n m c d : Nat) (gg kk : List (List Int)) (ha : RdM w A n gg) (hb : RdM w B m kk) (hn : n ≤ 1099511627776) (hm : m ≤ 1099511627776) (hrg : ∀ j, j < n → (gg[j]?.getD []).length ≤ 1099511627776) (hrk : ∀ j, j < m → (kk[j]?.getD []).length ≤ 1099511627776) :
    Calls Tryz.prog 28 #[.agg #[.slice A n c, .slice B m d]] w (RetMarks w gg kk) := by
  go_enter Tryz.func28, Tryz.ntmps28
  go_wp2_with (first | (go_at_call 58; ((with_reducible refine (toIntSS_any _ _ _ _ _ (ha.below (by repeat (first | exact Below.refl _ _ | assumption | refine bExt ?_ _ | refine bAlloc ?_ _ | refine bDrewN ?_ _ | refine bDrew ?_ | refine bSet ?_ (by first | exact Nat.le_refl _ | omega | (simp; done) | (simp; omega)) _))) hn hrg).mono ?_); rintro e w' ⟨A1, n1, c1, x1, rfl, rfl, o1⟩)) | (go_at_call 58; ((with_reducible refine (toIntSS_any _ _ _ _ _ (hb.below (by repeat (first | exact Below.refl _ _ | assumption | refine bExt ?_ _ | refine bAlloc ?_ _ | refine bDrewN ?_ _ | refine bDrew ?_ | refine bSet ?_ (by first | exact Nat.le_refl _ | omega | (simp; done) | (simp; omega)) _))) hm hrk).mono ?_); rintro e w' ⟨A2, n2, c2, x2, rfl, rfl, o2⟩)))
  refine bodyPost_ret (v := .agg #[.slice A1 n1 c1, .slice A2 n2 c2]) (by simp [results, Tryz.results28, go_sem]) rfl ?_
  have p1 := o1.toB
  have p2 := o2.toB
  have sb : ((((w.alloc (Obj.cells #[Value.slice A n c, Value.slice B m d] 29)).alloc (Obj.cells #[Value.slice none 0 0, Value.slice none 0 0] 43)).alloc (Obj.cells #[Value.slice none 0 0, Value.slice none 0 0] 43))).heap.size = w.heap.size + 3 := by simp [go_sem]
  generalize hWb : (((w.alloc (Obj.cells #[Value.slice A n c, Value.slice B m d] 29)).alloc (Obj.cells #[Value.slice none 0 0, Value.slice none 0 0] 43)).alloc (Obj.cells #[Value.slice none 0 0, Value.slice none 0 0] 43)) = Wb at *
  have hwb : Below w.heap.size w Wb := by rw [← hWb]; repeat (first | exact Below.refl _ _ | assumption | refine bExt ?_ _ | refine bAlloc ?_ _ | refine bDrewN ?_ _ | refine bDrew ?_ | refine bSet ?_ (by first | exact Nat.le_refl _ | omega | (simp; done) | (simp; omega)) _)
  clear hWb
  have hsz : Wb.heap.size ≤ (ext Wb x1).heap.size := ext_le Wb x1
  have s1 : ∀ (W : World) (a : Addr) (v : Value), (W.setCell a v).heap.size = W.heap.size := fun W a v => by simp [World.setCell]
  have q1 := (((((p1.set (g := w.heap.size + 1 + 1) (k := 0) (v := .slice A1 n1 c1) (.inl (by omega))).below (ext_below _ x2)).set (g := w.heap.size + 1 + 1) (k := 1) (v := .slice A2 n2 c2) (.inl (by omega))).set (g := w.heap.size + 1) (k := 0) (v := .slice A1 n1 c1) (.inl (by omega))).set (g := w.heap.size + 1) (k := 1) (v := .slice A2 n2 c2) (.inl (by omega)))
  rw [s1] at p2
  have q2 := ((p2.set (g := w.heap.size + 1 + 1) (k := 1) (v := .slice A2 n2 c2) (.inl (by omega))).set (g := w.heap.size + 1) (k := 0) (v := .slice A1 n1 c1) (.inl (by omega))).set (g := w.heap.size + 1) (k := 1) (v := .slice A2 n2 c2) (.inl (by omega))
  have hbf : Below w.heap.size w ((((ext ((ext Wb x1).setCell ⟨w.heap.size + 1 + 1, 0, none⟩ (Value.slice A1 n1 c1)) x2).setCell ⟨w.heap.size + 1 + 1, 1, none⟩ (Value.slice A2 n2 c2)).setCell ⟨w.heap.size + 1, 0, none⟩ (Value.slice A1 n1 c1)).setCell ⟨w.heap.size + 1, 1, none⟩ (Value.slice A2 n2 c2)) := by repeat (first | exact Below.refl _ _ | assumption | refine bExt ?_ _ | refine bAlloc ?_ _ | refine bDrewN ?_ _ | refine bDrew ?_ | refine bSet ?_ (by first | exact Nat.le_refl _ | omega | (simp; done) | (simp; omega)) _)
  obtain ⟨z, hz⟩ := ext_ex hbf
  rw [hz] at q1 q2
  exact ⟨A1, n1, c1, A2, n2, c2, z, (ext Wb x1).heap.size, rfl, hz, q1.mono (by omega) (Nat.le_refl _), q2.mono (Nat.le_refl _) (by rw [← hz, s1, s1, s1]; exact Nat.le_refl _), by omega⟩
end Go.Proofs.YtfmidngndddfiaaGreatDoor
