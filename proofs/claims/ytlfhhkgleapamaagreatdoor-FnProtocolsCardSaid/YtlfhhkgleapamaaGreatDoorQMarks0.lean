/- Slices of slices of ints: what they read as, rows of rows that a call made, and the law file's functions on them. Conditions: lengths below 2^40. -/
import Derived.Test.YtlfhhkgleapamaaGreatDoorQBase0
import Derived.Deep.Matrix
import Derived.Deep.RegionHeld3
set_option linter.unusedVariables false
set_option linter.unusedSimpArgs false
set_option maxRecDepth 100000
set_option maxHeartbeats 16000000
namespace Go.Proofs.YtlfhhkgleapamaaGreatDoor
open Go.ChangeShapes Go.WideShapes Go.ChangeAt Go.RowKit
def RdM (w : World) (A : OA) (n : Nat) (ll : List (List Int)) : Prop :=
 ll.length = n /\ (0 < n -> ∃ b off, A = some ⟨b, off, none⟩ /\ b < w.heap.size /\ ∀ j, j < n -> ∃ B m d, w.cell? ⟨b, off + j, none⟩ = some (.slice B m d) /\ RdI w B m (ll[j]?.getD []) /\ m <= d /\ d <= maxLen)
theorem RdM.below {w w' : World} {A : OA} {n : Nat} {ll : List (List Int)} (h : RdM w A n ll) (hb : Below w.heap.size w w') : RdM w' A n ll := by
 refine ⟨h.1, fun hn => ?_⟩;obtain ⟨b, off, rfl, hlt, hc⟩ := h.2 hn;refine ⟨b, off, rfl, Nat.lt_of_lt_of_le hlt hb.size, fun j hj => ?_⟩;obtain ⟨B, m, d, h1, h2, h3⟩ := hc j hj;exact ⟨B, m, d, (hb.cell (p := ⟨b, off + j, none⟩) hlt).trans h1, h2.below hb, h3⟩
theorem RdM.len {w : World} {A : OA} {n : Nat} {ll : List (List Int)} (h : RdM w A n ll) : ll.length = n := h.1
def OwM (base : Nat) (w : World) (A : OA) (n c : Nat) (ll : List (List Int)) : Prop :=
 ll.length = n /\ ∃ (B : Nat -> OA) (m d : Nat -> Nat), Ow 25 1 base w A n c ((List.range n).map fun j => .slice (B j) (m j) (d j)) /\
  (∀ j, j < n -> OwI base w (B j) (m j) (d j) (ll[j]?.getD []) /\ (blkOf (B j) = none ∨ blkOf (B j) ≠ blkOf A)) /\ ∀ i j, i < n -> j < n -> i ≠ j -> (blkOf (B i) = none ∨ blkOf (B i) ≠ blkOf (B j))
section
variable {base n c : Nat} {w w' : World} {A : OA} {ll : List (List Int)}
theorem OwM.rd (h : OwM base w A n c ll) : RdM w A n ll := by
 obtain ⟨h1, B, m, d, h2, h3, h4⟩ := h;refine ⟨h1, fun hn => ?_⟩;obtain ⟨b, off, e, hlt, hc⟩ := h2.rd.2 hn;exact ⟨b, off, e, hlt, fun j hj => ⟨B j, m j, d j, hc j _ (by simp [hj]), (h3 j hj).1.rd, (h3 j hj).1.cap_⟩⟩
end
def lenSum (ll : List (List Int)) : Int := (ll.map fun l => (l.length : Int)).sum
theorem gSetM (w : World) (g k : Nat) (v : Value) : w.grownBy (w.setCell ⟨g, k, none⟩ v) (some g) :=
 ⟨rfl, rfl, rfl, by simp [World.setCell], fun j _ hne => Below.heap_setCell w ⟨g, k, none⟩ v j (fun e => hne (by rw [e]))⟩
def OwMB (base hi : Nat) (w : World) (A : OA) (n c : Nat) (ll : List (List Int)) : Prop :=
 ll.length = n /\ ∃ (B : Nat -> OA) (m d : Nat -> Nat), (Ow 25 1 base w A n c ((List.range n).map fun j => .slice (B j) (m j) (d j)) /\
  (∀ j, j < n -> OwI base w (B j) (m j) (d j) (ll[j]?.getD []) /\ (blkOf (B j) = none ∨ blkOf (B j) ≠ blkOf A)) /\ ∀ i j, i < n -> j < n -> i ≠ j -> (blkOf (B i) = none ∨ blkOf (B i) ≠ blkOf (B j))) /\
  (∀ z, blkOf A = some z -> z < hi) /\ ∀ j, j < n -> ∀ z, blkOf (B j) = some z -> z < hi
section
variable {base hi n c : Nat} {w w' : World} {A : OA} {ll : List (List Int)}
theorem OwMB.toM (h : OwMB base hi w A n c ll) : OwM base w A n c ll := by obtain ⟨h1, B, m, d, h2, _⟩ := h; exact ⟨h1, B, m, d, h2⟩
theorem OwMB.below (h : OwMB base hi w A n c ll) (hb : Below w.heap.size w w') : OwMB base hi w' A n c ll := by
 obtain ⟨h1, B, m, d, ⟨h2, h3, h4⟩, h5⟩ := h;exact ⟨h1, B, m, d, ⟨h2.below hb, fun j hj => ⟨(h3 j hj).1.below hb, (h3 j hj).2⟩, h4⟩, h5⟩
theorem OwMB.mono {base' hi' : Nat} (h : OwMB base hi w A n c ll) (h1 : base' <= base) (h2 : hi <= hi') : OwMB base' hi' w A n c ll := by
 obtain ⟨g1, B, m, d, ⟨g2, g3, g4⟩, g5, g6⟩ := h;exact ⟨g1, B, m, d, ⟨g2.mono h1, fun j hj => ⟨(g3 j hj).1.mono h1, (g3 j hj).2⟩, g4⟩, fun z hz => Nat.lt_of_lt_of_le (g5 z hz) h2, fun j hj z hz => Nat.lt_of_lt_of_le (g6 j hj z hz) h2⟩
theorem OwMB.kept {g : Nat} (h : OwMB base hi w A n c ll) (hg : w.grownBy w' (some g)) (hne : g < base ∨ hi <= g) : OwMB base hi w' A n c ll := by
 obtain ⟨g1, B, m, d, ⟨g2, g3, g4⟩, g5, g6⟩ := h;have hA : blkOf A = none ∨ blkOf A ≠ some g := by
  cases hB : blkOf A with
  | none => exact .inl rfl
  | some z => exact .inr fun hh => by cases hh; have := (g2.blk hB).1; have := g5 _ hB; omega
 have hR : ∀ j, j < n -> blkOf (B j) = none ∨ blkOf (B j) ≠ some g := fun j hj => by
  cases hB : blkOf (B j) with
  | none => exact .inl rfl
  | some z => exact .inr fun hh => by cases hh; have := ((g3 j hj).1.blk hB).1; have := g6 j hj _ hB; omega
 exact ⟨g1, B, m, d, ⟨g2.kept hg hA, fun j hj => ⟨(g3 j hj).1.kept hg (hR j hj), (g3 j hj).2⟩, g4⟩, g5, g6⟩
theorem OwMB.set {g k : Nat} {v : Value} (h : OwMB base hi w A n c ll) (hne : g < base ∨ hi <= g) : OwMB base hi (w.setCell ⟨g, k, none⟩ v) A n c ll := h.kept (gSetM w g k v) hne
end
def compB (x : Int) : Bool := inB x 0 1000 && (x.tmod 25 == 0)
def gRowB (j : Nat) (l : List Int) : Bool := decide (l.length = j) && allB l (-5) 5
def cRowB (j : Nat) (l : List Int) : Bool := decide (l.length = j) && l.all compB
def judgesN (kk : List (List Int)) : Nat := (kk[0]?.getD []).length
def gAllB (gg kk : List (List Int)) : Bool := gg.all (gRowB (judgesN kk))
def cAllB (kk : List (List Int)) : Bool := kk.all (cRowB (judgesN kk))
def marksB (gg kk : List (List Int)) : Bool := decide (kk.length = 3) && decide (gg.length <= 14) && (gAllB gg kk && cAllB kk && inB (judgesN kk) 3 9)
section
variable {gg kk : List (List Int)}
theorem marksB_no3 (h : kk.length ≠ 3) : marksB gg kk = false := by simp [marksB, h]
theorem marksB_no14 (h : 14 < gg.length) : marksB gg kk = false := by simp [marksB]; omega
theorem marksB_noJ (h : inB (judgesN kk) 3 9 = false) : marksB gg kk = false := by simp [marksB, h]
theorem marksB_noG {k : Nat} (hk : k < gg.length) (h : gRowB (judgesN kk) (gg[k]?.getD []) = false) : marksB gg kk = false := by
 have : gAllB gg kk = false := all_miss [] hk h;simp [marksB, this]
theorem marksB_noC {k : Nat} (hk : k < kk.length) (h : cRowB (judgesN kk) (kk[k]?.getD []) = false) : marksB gg kk = false := by
 have : cAllB kk = false := all_miss [] hk h;simp [marksB, this]
theorem marksB_yes (h3 : kk.length = 3) (h14 : gg.length <= 14) (hg : gAllB gg kk = true) (hc : cAllB kk = true) : marksB gg kk = inB (judgesN kk) 3 9 := by
 simp [marksB, h3, h14, hg, hc]
theorem marksB_of (h : marksB gg kk = true) : kk.length = 3 /\ gg.length <= 14 /\ (3 <= judgesN kk /\ judgesN kk <= 9) /\ ∀ k, k < gg.length -> (gg[k]?.getD []).length = judgesN kk /\ ∀ x ∈ gg[k]?.getD [], -5 <= x /\ x <= 5 := by
 simp only [marksB, Bool.and_eq_true, decide_eq_true_eq] at h;obtain ⟨⟨h3, h14⟩, ⟨hg, _⟩, hj⟩ := h;have hj := inB_iff.1 hj;refine ⟨h3, h14, Om, fun k hk => ?_⟩;have := List.all_eq_true.1 hg _ (getD_mem [] gg k hk);simp only [gRowB, Bool.and_eq_true, decide_eq_true_eq] at this;exact ⟨this.1, allB_of this.2⟩
theorem gRow_of {j : Nat} {l : List Int} (h : l.length ≠ j) : gRowB j l = false := by simp [gRowB, h]
end
def mod25 (l : List Int) : Bool := l.all fun x => x.tmod 25 == 0
theorem cRow_eq (j : Nat) (l : List Int) : cRowB j l = (mod25 l && (decide (l.length = j) && allB l 0 1000)) := by
 unfold cRowB mod25 allB compB;have : (l.all fun x => inB x 0 1000 && (x.tmod 25 == 0)) = (l.all (fun x => inB x 0 1000) && l.all fun x => x.tmod 25 == 0) := by
  induction l with
  | nil => rfl
  | cons a r ih => simp only [List.all_cons, ih]; cases inB a 0 1000 <;> cases (a.tmod 25 == 0) <;> simp [Bool.and_comm]
 rw [this]
 cases decide (l.length = j) <;> cases l.all (fun x => inB x 0 1000) <;> cases (l.all fun x => x.tmod 25 == 0) <;> rfl
def RdMk (w : World) (A : OA) (n : Nat) (B : OA) (m : Nat) (gg kk : List (List Int)) : Prop :=
 RdM w A n gg /\ RdM w B m kk /\ n <= 1099511627776 /\ m <= 1099511627776 /\ (∀ j, j < n -> (gg[j]?.getD []).length <= 1099511627776) /\ ∀ j, j < m -> (kk[j]?.getD []).length <= 1099511627776
theorem RdMk.below {w w' : World} {A B : OA} {n m : Nat} {gg kk : List (List Int)} (h : RdMk w A n B m gg kk) (hb : Below w.heap.size w w') : RdMk w' A n B m gg kk := ⟨h.1.below hb, h.2.1.below hb, h.2.2⟩
theorem RdM.at_ {w : World} {A : OA} {n : Nat} {ll : List (List Int)} (h : RdM w A n ll) (k : Nat) (hk : k < n) : ∃ b off B m d, A = some ⟨b, off, none⟩ /\ b < w.heap.size /\ w.cell? ⟨b, off + k, none⟩ = some (.slice B m d) /\ RdI w B m (ll[k]?.getD []) /\ m <= d /\ d <= maxLen := by
 obtain ⟨b, off, e, hlt, hc⟩ := h.2 Om;obtain ⟨B, m, d, h1⟩ := hc k hk;exact ⟨b, off, B, m, d, e, hlt, h1⟩
theorem gRow_len {j : Nat} {l : List Int} (h : l.length = j) : gRowB j l = allB l (-5) 5 := by simp [gRowB, h]
theorem cRow_len {j : Nat} {l : List Int} (h : l.length = j) (h2 : mod25 l = true) : cRowB j l = allB l 0 1000 := by rw [cRow_eq]; simp [h, h2]
theorem cRow_ne {j : Nat} {l : List Int} (h : l.length ≠ j) : cRowB j l = false := by simp [cRowB, h]
theorem cRow_mod {j : Nat} {l : List Int} (h2 : mod25 l = false) : cRowB j l = false := by rw [cRow_eq]; simp [h2]
theorem mkListG_any (w : World) (A : OA) (n c : Nat) (l : List Int) (j : Nat) (ha : RdI w A n l) (hn : n <= 1099511627776) :
  Calls Tryz.prog 199 #[.slice A n c, .int .i64 j, .bool false] w fun e w' => e = .returned (.bool (gRowB j l)) /\ w = w' := by
 have Hl := Lib.hid ha.len;go_enter Tryz.func199, Tryz.ntmps199;go_wp2
 go_loop [8, 11] (fun _ i => ∃ k : Nat, k <= n /\ i = .int .i64 k) (fun _ i => n - (intOf i).toNat)
 case atStart => exact ⟨0, Om, rfl⟩
 case round =>
  obtain ⟨k, hk, rfl⟩ := hrel;by_cases hlt : k < n
  ·
   obtain ⟨b, off, rfl, hb, hc⟩ := ha.open_ Om;go_wp2
   go_round
   case rel => exact ⟨k + 1, Om, by go_num⟩
   case measure => simp [intOf]; omega
  ·
   by_cases hnj : n = j
   ·
    subst hnj;go_wp2_with (go_at_call 99; (with_reducible refine ep (l1All_any _ _ _ _ _ _ _ ha hn) ?_))
    go_ret;exact ⟨ret_bool (gRow_len Hl.out).symm, rfl⟩
   ·
    have hne : ((n : Int) == (j : Int)) = false := by simp; omega
    go_wp2;go_ret;exact ⟨ret_bool (gRow_of (by rw [Hl.out]; exact hnj)).symm, rfl⟩
theorem mkListC_any (w : World) (A : OA) (n c : Nat) (l : List Int) (j : Nat) (ha : RdI w A n l) (hn : n <= 1099511627776) :
  Calls Tryz.prog 199 #[.slice A n c, .int .i64 j, .bool true] w fun e w' => e = .returned (.bool (cRowB j l)) /\ w = w' := by
 have Hl := Lib.hid ha.len;go_enter Tryz.func199, Tryz.ntmps199;go_wp2
 go_loop [8, 11] (fun _ i => ∃ k : Nat, k <= n /\ i = .int .i64 k /\ Hid ((l.take k).all (fun x => x.tmod 25 == 0) = true)) (fun _ i => n - (intOf i).toNat)
 case atStart => exact ⟨0, Om, rfl, rfl⟩
 case round =>
  obtain ⟨k, hk, rfl, HT⟩ := hrel;by_cases hlt : k < n
  ·
   obtain ⟨b, off, rfl, hb, hc⟩ := ha.open_ Om;have hck := hc k hlt;clear hc;obtain ⟨x, hx⟩ : ∃ x, l.getD k 0 = x := ⟨_, rfl⟩;rw [hx] at hck;rw [List.getD_eq_getElem?_getD] at hx;have HX := Lib.hid hx;clear hx;by_cases hr : x.tmod 25 = 0
   ·
    have Hr := Lib.hid hr;go_wp2
    go_round
    case rel => exact ⟨k + 1, Om, by go_num, all_step 0 (by rw [Hl.out]; exact hlt) HT.out (by rw [HX.out, Hr.out]; rfl)⟩
    case measure => simp [intOf]; omega
   ·
    have hr' : (x.tmod 25 != 0) = true := by simpa using hr
    have Hr := Lib.hid hr;go_wp2;go_ret;exact ⟨ret_bool (cRow_mod (all_miss 0 (k := k) (by rw [Hl.out]; exact hlt) (by rw [HX.out]; simpa using Hr.out))).symm, rfl⟩
  ·
   have HM := Lib.hid (all_end HT.out (by rw [Hl.out]; omega));by_cases hnj : n = j
   ·
    subst hnj;go_wp2_with (go_at_call 99; (with_reducible refine ep (l1All_any _ _ _ _ _ _ _ ha hn) ?_))
    go_ret;exact ⟨ret_bool (cRow_len Hl.out HM.out).symm, rfl⟩
   ·
    have hne : ((n : Int) == (j : Int)) = false := by simp; omega
    go_wp2;go_ret;exact ⟨ret_bool (cRow_ne (by rw [Hl.out]; exact hnj)).symm, rfl⟩
theorem isComponentMark_any (x : Int) (w : World) :
  Calls Tryz.prog 182 #[.int .i64 x] w fun e w' => e = .returned (.bool (compB x)) /\ w = w' := by
 unfold compB
 cases h1 : inB x 0 1000
 ·
  go_enter Tryz.func182, Tryz.ntmps182;go_wp2_with (go_at_call 64; (with_reducible refine ep (within_any _ _ _ _) ?_))
  go_ret;exact ⟨rfl, rfl⟩
 ·
  go_enter Tryz.func182, Tryz.ntmps182;go_wp2_with (go_at_call 64; (with_reducible refine ep (within_any _ _ _ _) ?_))
  go_ret;exact ⟨rfl, rfl⟩
theorem isMarksF_any (x : Int) (w : World) :
  Calls Tryz.prog 181 #[.int .i64 x] w fun e w' => e = .returned (.bool (!compB x)) /\ w = w' := by
 go_enter Tryz.func181, Tryz.ntmps181;go_wp2_with (go_at_call 182; (with_reducible refine ep (isComponentMark_any _ _) ?_))
 go_ret;exact ⟨rfl, rfl⟩
def IdxAt (w : World) (b : Bool) (e : Ending) (w' : World) : Prop := ∃ (i : Int), e = .returned (.int .i64 i) /\ w = w' /\ decide (0 <= i) = b
def badB (l : List Int) : Bool := l.any fun x => !compB x
theorem badB_eq (l : List Int) : badB l = !l.all compB := by
 unfold badB
 induction l with
 | nil => rfl
 | cons a r ih => simp only [List.any_cons, List.all_cons, ih, Bool.not_and]
theorem cRow_bad {j : Nat} {l : List Int} (h : l.length = j) : cRowB j l = !badB l := by rw [badB_eq]; simp [cRowB, h]
theorem indexBad_any (w : World) (A : OA) (n c : Nat) (l : List Int) (ha : RdI w A n l) (hn : n <= 1099511627776) :
  Calls Tryz.prog 219 #[.slice A n c, .func (.func 181) #[] #[]] w (IdxAt w (badB l)) := by
 have Hl := Lib.hid ha.len;unfold badB;go_enter Tryz.func219, Tryz.ntmps219;go_wp2
 go_loop [5, 8] (fun _ i => ∃ k : Nat, k <= n /\ i = .int .i64 k /\ Hid ((l.take k).any (fun x => !compB x) = false)) (fun _ i => n - (intOf i).toNat)
 case atStart => exact ⟨0, Om, rfl, rfl⟩
 case round =>
  obtain ⟨k, hk, rfl, HT⟩ := hrel;by_cases hlt : k < n
  ·
   obtain ⟨b, off, rfl, hb, hc⟩ := ha.open_ Om;go_wp2_with (go_at_call 181; (with_reducible refine ep (isMarksF_any _ _) ?_))
   ·
    have hh : (!compB (l[k]?.getD 0)) = true := by assumption
    go_ret;exact ⟨k, rfl, rfl, by rw [any_hit 0 (by rw [Hl.out]; exact hlt) hh]; simp⟩
   ·
    have hh : (!compB (l[k]?.getD 0)) = false := by assumption
    go_round
    case rel => exact ⟨k + 1, Om, by go_num, any_step 0 (by rw [Hl.out]; exact hlt) HT.out hh⟩
    case measure => simp [intOf]; omega
  ·
   have Hend := Lib.hid (any_end HT.out (by rw [Hl.out]; omega));go_wp2;go_ret;exact ⟨-1, rfl, rfl, by rw [Hend.out]; rfl⟩
theorem containsBad_any (w : World) (A : OA) (n c : Nat) (l : List Int) (ha : RdI w A n l) (hn : n <= 1099511627776) :
  Calls Tryz.prog 180 #[.slice A n c, .func (.func 181) #[] #[]] w fun e w' => e = .returned (.bool (badB l)) /\ w = w' := by
 go_enter Tryz.func180, Tryz.ntmps180;go_wp2_with (go_at_call 219; ((with_reducible refine (indexBad_any _ _ _ _ _ ha hn).mono ?_); rintro e w' ⟨i, rfl, rfl, hi⟩))
 go_ret;exact ⟨by simp_all, rfl⟩
theorem mkJudges_any (w : World) (A B : OA) (n m c d : Nat) (gg kk : List (List Int)) (hm : RdMk w A n B m gg kk) (h0 : 0 < m) :
  Calls Tryz.prog 177 #[.agg #[.slice A n c, .slice B m d]] w fun e w' => e = .returned (.int .i64 (judgesN kk)) /\ ∃ x, w' = ext w x := by
 obtain ⟨b, off, B0, m0, d0, rfl, hb, hc, hr, _, _⟩ := hm.2.1.at_ 0 h0;have hj : judgesN kk = m0 := hr.len;rw [hj];rw [Nat.add_zero] at hc;clear hj hr;go_enter Tryz.func177, Tryz.ntmps177;go_wp2;go_ret;exact ⟨rfl, ext_ex bL⟩
theorem judgesOf_any (w : World) (A B : OA) (n m c d : Nat) (gg kk : List (List Int)) (hm : RdMk w A n B m gg kk) (h0 : 0 < m) :
  Calls Tryz.prog 179 #[.agg #[.slice A n c, .slice B m d]] w fun e w' => e = .returned (.int .i64 (judgesN kk)) /\ ∃ x, w' = ext w x := by
 obtain ⟨b, off, B0, m0, d0, rfl, hb, hc, hr, _, _⟩ := hm.2.1.at_ 0 h0;have hj : judgesN kk = m0 := hr.len;rw [hj];rw [Nat.add_zero] at hc;clear hj hr;go_enter Tryz.func179, Tryz.ntmps179;go_wp2;go_ret;exact ⟨rfl, ext_ex bL⟩
theorem mkAll_any (w : World) (A B : OA) (n m c d : Nat) (gg kk : List (List Int)) (hm : RdMk w A n B m gg kk) :
  Calls Tryz.prog 151 #[.agg #[.slice A n c, .slice B m d]] w fun e w' => e = .returned (.bool (marksB gg kk)) /\ ∃ x, w' = ext w x := by
 have hmk := hm;obtain ⟨hA, hB, hn, hm40, hrg, hrk⟩ := hm;have HlA := Lib.hid hA.len;have HlB := Lib.hid hB.len;by_cases h3 : m = 3
 case neg =>
  have h3' : ((m : Int) != 3) = true := by simp; omega
  have Hno := Lib.hid (marksB_no3 (gg := gg) (show kk.length ≠ 3 by rw [HlB.out]; exact h3));go_enter Tryz.func151, Tryz.ntmps151;go_wp2
  all_goals go_ret
  all_goals exact ⟨ret_bool Hno.out.symm, ext_ex bL⟩
 have h3' : ((m : Int) != 3) = false := by simp; omega
 by_cases h14 : n <= 14
 case neg =>
  have h14' : (14 : Int) < n := Om;have Hno := Lib.hid (marksB_no14 (gg := gg) (kk := kk) (show 14 < gg.length by rw [HlA.out]; omega));go_enter Tryz.func151, Tryz.ntmps151;go_wp2;go_ret;exact ⟨ret_bool Hno.out.symm, ext_ex bL⟩
 have h14' : ¬ (14 : Int) < n := Om;obtain ⟨b, off, B0, m0, d0, rfl, hb, hc, hr, _, _⟩ := hB.at_ 0 Om;have hm0 : 0 < m := Om;have HJ := Lib.hid (show judgesN kk = m0 from hr.len);have H3 := Lib.hid h3;rw [Nat.add_zero] at hc;clear hr h3;go_enter Tryz.func151, Tryz.ntmps151;go_wp2
 go_loopw [5, 26] (fun _ i wr => ∃ (k : Nat) (x : World), k <= n /\ i = .int .i64 k /\ wr = ext (w.alloc (.cells #[.slice A n c, .slice (some ⟨b, off, none⟩) m d] 31)) x /\ Hid ((gg.take k).all (gRowB m0) = true)) (fun _ i _ => n - (intOf i).toNat)
 case atStart => exact ⟨0, _, Om, rfl, ext_self _, rfl⟩
 case round =>
  obtain ⟨k, xG, hk, rfl, rfl, HT⟩ := hrel;by_cases hlt : k < n
  ·
   obtain ⟨b1, o1, B1, m1, d1, rfl, hb1, hc1, hr, _, _⟩ := hA.at_ k hlt
   skip
   have hrb : m1 <= 1099511627776 := by have := hrg k hlt; rw [hr.len] at this; exact this
   obtain ⟨lk, hlk⟩ : ∃ lk, gg[k]?.getD [] = lk := ⟨_, rfl⟩;rw [hlk] at hr;have HL := Lib.hid hlk;clear hlk;go_wp2_with (first | (go_at_call 199; (with_reducible refine ep (mkListG_any _ _ _ _ _ _ (hr.below bL) hrb) ?_)))
   ·
    have hh : (!gRowB m0 lk) = true := by assumption
    go_ret;exact ⟨ret_bool (marksB_noG (k := k) (by rw [HlA.out]; exact hlt) (by rw [HJ.out, HL.out]; simpa using hh)).symm, ext_ex bL⟩
   ·
    have hh : (!gRowB m0 lk) = false := by assumption
    go_roundw
    case rel => exact ⟨k + 1, _, Om, by go_num, (ext_ex bL).choose_spec, all_step [] (by rw [HlA.out]; exact hlt) HT.out (by rw [HL.out]; simpa using hh)⟩
    case measure => simp [intOf]; omega
  ·
   have HGA := Lib.hid (show gg.all (gRowB m0) = true from all_end HT.out (by rw [HlA.out]; omega));go_wp2
   go_loopw [7, 38] (fun _ i wr => ∃ (k : Nat) (x : World), k <= m /\ i = .int .i64 k /\ wr = ext (w.alloc (.cells #[.slice A n c, .slice (some ⟨b, off, none⟩) m d] 31)) x /\ Hid ((kk.take k).all (cRowB m0) = true)) (fun _ i _ => m - (intOf i).toNat)
   case atStart => exact ⟨0, _, Om, rfl, rfl, rfl⟩
   case round =>
    obtain ⟨k, xC, hk, rfl, rfl, HT⟩ := hrel;by_cases hlt : k < m
    ·
     obtain ⟨b1, o1, B1, m1, d1, hbe, hb1, hc1, hr, _, _⟩ := hB.at_ k hlt;injection hbe with hbe; injection hbe with hbe1 hbe2; subst hbe1 hbe2;have hrb : m1 <= 1099511627776 := by have := hrk k hlt; rw [hr.len] at this; exact this
     obtain ⟨lk, hlk⟩ : ∃ lk, kk[k]?.getD [] = lk := ⟨_, rfl⟩;rw [hlk] at hr;have HL := Lib.hid hlk;clear hlk;go_wp2_with (first | (go_at_call 199; (with_reducible refine ep (mkListC_any _ _ _ _ _ _ (hr.below bL) hrb) ?_)))
     ·
      have hh : (!cRowB m0 lk) = true := by assumption
      go_ret;exact ⟨ret_bool (marksB_noC (k := k) (by rw [HlB.out]; exact hlt) (by rw [HJ.out, HL.out]; simpa using hh)).symm, ext_ex bL⟩
     ·
      have hh : (!cRowB m0 lk) = false := by assumption
      go_roundw
      case rel => exact ⟨k + 1, _, Om, by go_num, (ext_ex bL).choose_spec, all_step [] (by rw [HlB.out]; exact hlt) HT.out (by rw [HL.out]; simpa using hh)⟩
      case measure => simp [intOf]; omega
    ·
     have HCA := Lib.hid (show kk.all (cRowB m0) = true from all_end HT.out (by rw [HlB.out]; omega));have Hfin := Lib.hid (show marksB gg kk = inB m0 3 9 by rw [marksB_yes (by rw [HlB.out, H3.out]) (by rw [HlA.out]; exact h14) (by rw [gAllB, HJ.out]; exact HGA.out) (by rw [cAllB, HJ.out]; exact HCA.out), HJ.out]);go_wp2_with (go_at_call 60; (with_reducible refine ep (l1In_any _ _ _ _) ?_))
     go_ret;exact ⟨ret_bool Hfin.out.symm, ext_ex bL⟩
theorem isMarks_any (w : World) (A B : OA) (n m c d : Nat) (gg kk : List (List Int)) (hm : RdMk w A n B m gg kk) :
  Calls Tryz.prog 128 #[.agg #[.slice A n c, .slice B m d]] w fun e w' => e = .returned (.bool (marksB gg kk)) /\ ∃ x, w' = ext w x := by
 have hmk := hm;obtain ⟨hA, hB, hn, hm40, hrg, hrk⟩ := hm;have HlA := Lib.hid hA.len;have HlB := Lib.hid hB.len;by_cases h3 : m = 3
 case neg =>
  have h3' : ((m : Int) != 3) = true := by simp; omega
  have Hno := Lib.hid (marksB_no3 (gg := gg) (show kk.length ≠ 3 by rw [HlB.out]; exact h3));go_enter Tryz.func128, Tryz.ntmps128;go_wp2
  all_goals go_ret
  all_goals exact ⟨ret_bool Hno.out.symm, ext_ex bL⟩
 have h3' : ((m : Int) != 3) = false := by simp; omega
 by_cases h14 : n <= 14
 case neg =>
  have h14' : (14 : Int) < n := Om;have Hno := Lib.hid (marksB_no14 (gg := gg) (kk := kk) (show 14 < gg.length by rw [HlA.out]; omega));go_enter Tryz.func128, Tryz.ntmps128;go_wp2;go_ret;exact ⟨ret_bool Hno.out.symm, ext_ex bL⟩
 have h14' : ¬ (14 : Int) < n := Om;obtain ⟨b, off, B0, m0, d0, rfl, hb, hc, hr, _, _⟩ := hB.at_ 0 Om;have hm0 : 0 < m := Om;have HJ := Lib.hid (show judgesN kk = m0 from hr.len);have H3 := Lib.hid h3;rw [Nat.add_zero] at hc;clear hr h3
 cases hj : inB m0 3 9
 ·
  have Hno := Lib.hid (marksB_noJ (gg := gg) (kk := kk) (by rw [HJ.out]; exact hj));go_enter Tryz.func128, Tryz.ntmps128;go_wp2_with (go_at_call 64; (with_reducible refine ep (within_any _ _ _ _) ?_))
  go_ret;exact ⟨ret_bool Hno.out.symm, ext_ex bL⟩
 go_enter Tryz.func128, Tryz.ntmps128;go_wp2_with (go_at_call 64; (with_reducible refine ep (within_any _ _ _ _) ?_))
 go_loopw [4, 29] (fun _ i wr => ∃ (k : Nat) (x : World), k <= n /\ i = .int .i64 k /\ wr = ext (w.alloc (.cells #[.slice A n c, .slice (some ⟨b, off, none⟩) m d] 31)) x /\ Hid ((gg.take k).all (gRowB m0) = true)) (fun _ i _ => n - (intOf i).toNat)
 case atStart => exact ⟨0, _, Om, rfl, ext_self _, rfl⟩
 case round =>
  obtain ⟨k, xG, hk, rfl, rfl, HT⟩ := hrel;by_cases hlt : k < n
  ·
   obtain ⟨b1, o1, B1, m1, d1, rfl, hb1, hc1, hr, _, _⟩ := hA.at_ k hlt
   skip
   have hrb : m1 <= 1099511627776 := by have := hrg k hlt; rw [hr.len] at this; exact this
   obtain ⟨lk, hlk⟩ : ∃ lk, gg[k]?.getD [] = lk := ⟨_, rfl⟩;rw [hlk] at hr;have HL := Lib.hid hlk;clear hlk;by_cases hm1 : m1 = m0
   ·
    have hq : ((m1 : Int) != (m0 : Int)) = false := by simp; omega
    have hrl : lk.length = m0 := by rw [hr.len]; exact hm1
    have Hrl := Lib.hid (gRow_len hrl);clear hrl hm1;go_wp2_with (first | (go_at_call 179; ((with_reducible refine (judgesOf_any _ _ _ _ _ _ _ _ _ (hmk.below bL) hm0).mono ?_); rintro e w' ⟨rfl, z, rfl⟩; rw [HJ.out])) | (go_at_call 84; (with_reducible refine ep (allWithin_any _ _ _ _ _ _ _ (hr.below bL) hrb) ?_)))
    ·
     have hh : (!allB lk (-5) 5) = true := by assumption
     go_ret;exact ⟨ret_bool (marksB_noG (k := k) (by rw [HlA.out]; exact hlt) (by rw [HJ.out, HL.out, Hrl.out]; simpa using hh)).symm, ext_ex bL⟩
    ·
     have hh : (!allB lk (-5) 5) = false := by assumption
     go_roundw
     case rel => exact ⟨k + 1, _, Om, by go_num, (ext_ex bL).choose_spec, all_step [] (by rw [HlA.out]; exact hlt) HT.out (by rw [HL.out, Hrl.out]; simpa using hh)⟩
     case measure => simp [intOf]; omega
   ·
    have hq : ((m1 : Int) != (m0 : Int)) = true := by simp; omega
    have Hrl := Lib.hid (gRow_of (l := lk) (j := m0) (by rw [hr.len]; exact hm1));clear hm1;go_wp2_with (first | (go_at_call 179; ((with_reducible refine (judgesOf_any _ _ _ _ _ _ _ _ _ (hmk.below bL) hm0).mono ?_); rintro e w' ⟨rfl, z, rfl⟩; rw [HJ.out])))
    go_ret;exact ⟨ret_bool (marksB_noG (k := k) (by rw [HlA.out]; exact hlt) (by rw [HJ.out, HL.out, Hrl.out])).symm, ext_ex bL⟩
  ·
   have HGA := Lib.hid (show gg.all (gRowB m0) = true from all_end HT.out (by rw [HlA.out]; omega));go_wp2
   go_loopw [6, 47] (fun _ i wr => ∃ (k : Nat) (x : World), k <= m /\ i = .int .i64 k /\ wr = ext (w.alloc (.cells #[.slice A n c, .slice (some ⟨b, off, none⟩) m d] 31)) x /\ Hid ((kk.take k).all (cRowB m0) = true)) (fun _ i _ => m - (intOf i).toNat)
   case atStart => exact ⟨0, _, Om, rfl, rfl, rfl⟩
   case round =>
    obtain ⟨k, xC, hk, rfl, rfl, HT⟩ := hrel;by_cases hlt : k < m
    ·
     obtain ⟨b1, o1, B1, m1, d1, hbe, hb1, hc1, hr, _, _⟩ := hB.at_ k hlt;injection hbe with hbe; injection hbe with hbe1 hbe2; subst hbe1 hbe2;have hrb : m1 <= 1099511627776 := by have := hrk k hlt; rw [hr.len] at this; exact this
     obtain ⟨lk, hlk⟩ : ∃ lk, kk[k]?.getD [] = lk := ⟨_, rfl⟩;rw [hlk] at hr;have HL := Lib.hid hlk;clear hlk;by_cases hm1 : m1 = m0
     ·
      have hq : ((m1 : Int) != (m0 : Int)) = false := by simp; omega
      have hrl : lk.length = m0 := by rw [hr.len]; exact hm1
      have Hrl := Lib.hid (cRow_bad hrl);clear hrl hm1;go_wp2_with (first | (go_at_call 179; ((with_reducible refine (judgesOf_any _ _ _ _ _ _ _ _ _ (hmk.below bL) hm0).mono ?_); rintro e w' ⟨rfl, z, rfl⟩; rw [HJ.out])) | (go_at_call 180; (with_reducible refine ep (containsBad_any _ _ _ _ _ (hr.below bL) hrb) ?_)))
      ·
       have hh : badB lk = true := by assumption
       go_ret;exact ⟨ret_bool (marksB_noC (k := k) (by rw [HlB.out]; exact hlt) (by rw [HJ.out, HL.out, Hrl.out]; simpa using hh)).symm, ext_ex bL⟩
      ·
       have hh : badB lk = false := by assumption
       go_roundw
       case rel => exact ⟨k + 1, _, Om, by go_num, (ext_ex bL).choose_spec, all_step [] (by rw [HlB.out]; exact hlt) HT.out (by rw [HL.out, Hrl.out]; simpa using hh)⟩
       case measure => simp [intOf]; omega
     ·
      have hq : ((m1 : Int) != (m0 : Int)) = true := by simp; omega
      have Hrl := Lib.hid (cRow_ne (l := lk) (j := m0) (by rw [hr.len]; exact hm1));clear hm1;go_wp2_with (first | (go_at_call 179; ((with_reducible refine (judgesOf_any _ _ _ _ _ _ _ _ _ (hmk.below bL) hm0).mono ?_); rintro e w' ⟨rfl, z, rfl⟩; rw [HJ.out])))
      go_ret;exact ⟨ret_bool (marksB_noC (k := k) (by rw [HlB.out]; exact hlt) (by rw [HJ.out, HL.out, Hrl.out])).symm, ext_ex bL⟩
    ·
     have HCA := Lib.hid (show kk.all (cRowB m0) = true from all_end HT.out (by rw [HlB.out]; omega));have Hfin := Lib.hid (show marksB gg kk = inB m0 3 9 by rw [marksB_yes (by rw [HlB.out, H3.out]) (by rw [HlA.out]; exact h14) (by rw [gAllB, HJ.out]; exact HGA.out) (by rw [cAllB, HJ.out]; exact HCA.out), HJ.out]);rw [hj] at Hfin;go_wp2;go_ret;exact ⟨ret_bool Hfin.out.symm, ext_ex bL⟩
structure Mid (lo hi : Nat) (w w' : World) : Prop where
 os : w'.os = w.os
 tape : w'.tape = w.tape
 output : w'.output = w.output
 size : w.heap.size <= w'.heap.size
 block : ∀ k, k < w.heap.size -> k < lo ∨ hi <= k -> w'.heap[k]? = w.heap[k]?
section
variable {lo hi : Nat} {w w' w'' R : World}
theorem Mid.of_grown {row : Option Nat} (h : w.grownBy w' row) (hr : ∀ k, row = some k -> lo <= k /\ k < hi) : Mid lo hi w w' :=
 ⟨h.os, h.tape, h.output, h.size, fun k hk hn => h.block k hk (fun e => by have := hr k e.symm; omega)⟩
theorem Ow.keptM {e s base n c : Nat} {A : OA} {xs : List Value} (h : Ow e s base w A n c xs) (hg : Mid lo hi w w') (hn : ∀ g, blkOf A = some g -> g < lo ∨ hi <= g) : Ow e s base w' A n c xs := by
 refine ⟨h.1, ?_⟩
 rcases h.2 with hnil | ⟨g, cap, cur, hv, hb, hgg, rest⟩
 ·
  exact .inl hnil
 ·
  refine .inr ⟨g, cap, cur, hv, hb, ?_, rest⟩;simp at hv;rw [hg.block g (Array.getElem?_eq_some_iff.1 hgg).1 (hn g (by rw [hv.1]; rfl))];exact hgg
theorem OwI.keptM {base n c : Nat} {A : OA} {l : List Int} (h : OwI base w A n c l) (hg : Mid lo hi w w') (hn : ∀ g, blkOf A = some g -> g < lo ∨ hi <= g) : OwI base w' A n c l := Ow.keptM h hg hn
end
theorem OwMB.row {base hi n c k : Nat} {w w' : World} {A : OA} {ll : List (List Int)} {l' : List Int} {B0 : OA} {m0 d0 : Nat}
  (h : OwMB base hi w A n c ll) (hk : k < n)
  (hf : ∀ (B : Nat -> OA) (m d : Nat -> Nat), Ow 25 1 base w A n c ((List.range n).map fun j => .slice (B j) (m j) (d j)) -> B k = B0 /\ m k = m0 /\ d k = d0)
  (ho : OwI base w' B0 m0 d0 l') (hg : w.grownBy w' (blkOf B0)) : OwMB base hi w' A n c (ll.set k l') /\ Mid base hi w w' := by
 obtain ⟨g1, B, m, d, ⟨g2, g3, g4⟩, g5, g6⟩ := h;obtain ⟨e1, e2, e3⟩ := hf B m d g2;refine ⟨⟨by simpa using g1, B, m, d, ⟨?_, fun j hj => ⟨?_, (g3 j hj).2⟩, g4⟩, g5, g6⟩, ?_⟩
 ·
  refine g2.kept hg ?_;have := (g3 k hk).2;rw [e1] at this
  rcases this with h0 | h0
  ·
   rw [h0]
   cases blkOf A <;> simp
  ·
   exact .inr fun h => h0 h.symm
 ·
  by_cases e : j = k
  ·
   subst e;have : (ll.set j l')[j]?.getD [] = l' := by simp [g1, hj]
   rw [this, e1, e2, e3];exact ho
  ·
   have : (ll.set k l')[j]?.getD [] = ll[j]?.getD [] := by rw [List.getElem?_set_ne (fun h => e h.symm)]
   rw [this];refine (g3 j hj).1.kept hg ?_;have := g4 j k hj hk e;rw [e1] at this;exact this
 ·
  refine Mid.of_grown hg fun z hz => ?_
  have h1 := (g3 k hk).1;have h2 := g6 k hk z (by rw [e1]; exact hz);rw [e1, e2, e3] at h1;exact ⟨(h1.blk hz).1, h2⟩
theorem OwMB.at_ {base hi n c : Nat} {w : World} {A : OA} {ll : List (List Int)} (h : OwMB base hi w A n c ll) (k : Nat) (hk : k < n) :
  ∃ g B0 m0 d0, A = some ⟨g, 0, none⟩ /\ g < w.heap.size /\ w.cell? ⟨g, k, none⟩ = some (.slice B0 m0 d0) /\ OwI base w B0 m0 d0 (ll[k]?.getD []) /\
   ∀ (w' : World) (l' : List Int), OwI base w' B0 m0 d0 l' -> w.grownBy w' (blkOf B0) -> OwMB base hi w' A n c (ll.set k l') /\ Mid base hi w w' := by
 have h0 := h;obtain ⟨g1, B, m, d, ⟨g2, g3, g4⟩, g5, g6⟩ := h;obtain ⟨g, rfl, hb, hz⟩ := g2.form_ Om;have hcell : ∀ (B : Nat -> OA) (m d : Nat -> Nat), Ow 25 1 base w (some ⟨g, 0, none⟩) n c ((List.range n).map fun j => .slice (B j) (m j) (d j)) -> w.cell? ⟨g, k, none⟩ = some (.slice (B k) (m k) (d k)) := fun B m d h => by
  rw [Ow.cell_ h k Om]; simp [hk]
 refine ⟨g, B k, m k, d k, rfl, hz, hcell B m d g2, (g3 k hk).1, fun w' l' ho hg => h0.row hk (fun B' m' d' h' => ?_) ho hg⟩;have e := (hcell B' m' d' h').symm.trans (hcell B m d g2);simp at e;exact e
theorem OwMB.keptM {base hi lo' hi' n c : Nat} {w w' : World} {A : OA} {ll : List (List Int)} (h : OwMB base hi w A n c ll) (hg : Mid lo' hi' w w') (hd : hi' <= base ∨ hi <= lo') : OwMB base hi w' A n c ll := by
 obtain ⟨g1, B, m, d, ⟨g2, g3, g4⟩, g5, g6⟩ := h;exact ⟨g1, B, m, d, ⟨g2.keptM hg (fun g hg' => by have := (g2.blk hg').1; have := g5 g hg'; omega), fun j hj => ⟨(g3 j hj).1.keptM hg (fun g hg' => by have := ((g3 j hj).1.blk hg').1; have := g6 j hj g hg'; omega), (g3 j hj).2⟩, g4⟩, g5, g6⟩
section
variable {base hi n m c d : Nat} {w w' : World} {A B : OA} {gg kk : List (List Int)}
end
end Go.Proofs.YtlfhhkgleapamaaGreatDoor
