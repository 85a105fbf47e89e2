/- Plain: sorted lists of ints; the insertion sort of the reference is the sort. Conditions: none. -/
import Derived.Test.YtlfhhkgleapamaaGreatDoorRBase0
import Derived.Lib.Slices
import Derived.Test.YtlfhhkgleapamaaGreatDoorRShelf
import Derived.Sort.OwnSortedInts
import Derived.Deep.RegionLaw
import Derived.Test.YtlfhhkgleapamaaGreatDoorRBase1s
import Derived.BigQuiet
set_option linter.unusedVariables false
set_option linter.unusedSimpArgs false
set_option maxRecDepth 100000
set_option maxHeartbeats 16000000
namespace Go.Proofs.YtlfhhkgleapamaaGreatDoor
open Go.Sort Go.RowKit
variable {x : Int} {l : List Int}
def sortI (l : List Int) : List Int := l.mergeSort fun x y => decide (x <= y)
theorem sortI_perm (l : List Int) : (sortI l).Perm l := List.mergeSort_perm l _
theorem sortI_len (l : List Int) : (sortI l).length = l.length := (sortI_perm l).length_eq
theorem sortI_sorted (l : List Int) : (sortI l).Pairwise (· <= ·) := by
 have := List.pairwise_mergeSort (le := fun x y : Int => decide (x <= y)) (fun a b c h1 h2 => by simp at *; omega) (fun a b => by simp; omega) l;exact this.imp (fun h => by simpa using h)
theorem sortI_unique {m : List Int} (hp : m.Perm l) (hs : m.Pairwise (· <= ·)) : m = sortI l :=
 List.Perm.eq_of_pairwise (le := (· <= ·)) (fun a b _ _ h1 h2 => by omega) hs (sortI_sorted l) (hp.trans (sortI_perm l).symm)
def insK (out : List Int) (x : Int) : Nat -> Nat
 | 0 => 0
 | k + 1 => if x < out[k]?.getD 0 then insK out x k else k + 1
def insI (out : List Int) (x : Int) : List Int := out.take (insK out x out.length) ++ [x] ++ out.drop (insK out x out.length)
theorem insK_spec (out : List Int) (x : Int) (m : Nat) : insK out x m <= m /\ (∀ j, insK out x m <= j -> j < m -> x < out[j]?.getD 0) /\ (insK out x m = 0 ∨ out[insK out x m - 1]?.getD 0 <= x) := by
 induction m with
 | zero => simp [insK]
 | succ m ih =>
  unfold insK;by_cases h : x < out[m]?.getD 0
  ·
   rw [if_pos h];refine ⟨Om, fun j h1 h2 => ?_, ih.2.2⟩;by_cases e : j = m
   ·
    subst e; exact h
   ·
    exact ih.2.1 j h1 Om
  ·
   rw [if_neg h];exact ⟨Om, fun j h1 h2 => by omega, .inr (by simpa using h)⟩
theorem insK_step {out : List Int} {k : Nat} (h : x < out[k]?.getD 0) : insK out x (k + 1) = insK out x k := by simp [insK, h]
theorem insK_stop {out : List Int} {k : Nat} (h : ¬ x < out[k]?.getD 0) : insK out x (k + 1) = k + 1 := by simp [insK, h]
theorem insI_perm (out : List Int) (x : Int) : (insI out x).Perm (x :: out) := by
 unfold insI;rw [List.append_assoc];have := List.perm_middle (a := x) (l₁ := out.take (insK out x out.length)) (l₂ := out.drop (insK out x out.length));rw [List.take_append_drop] at this;exact this
theorem pw_get (h : l.Pairwise (· <= ·)) {i j : Nat} (hij : i <= j) (hj : j < l.length) : l[i]?.getD 0 <= l[j]?.getD 0 := by
 have hi : i < l.length := Om;by_cases e : i = j
 ·
  subst e; exact Int.le_refl _
 ·
  have := (List.pairwise_iff_getElem.1 h) i j hi hj Om
  simpa [hi, hj] using this
theorem insI_sorted {out : List Int} (h : out.Pairwise (· <= ·)) : (insI out x).Pairwise (· <= ·) := by
 obtain ⟨h1, h2, h3⟩ := insK_spec out x out.length;unfold insI;generalize insK out x out.length = k at *;have hdrop : ∀ b ∈ out.drop k, x <= b := fun b hb => by
  obtain ⟨i, hi, rfl⟩ := List.mem_iff_getElem.1 hb;simp only [List.length_drop] at hi;have := h2 (k + i) Om Om;simp [show k + i < out.length by omega] at this
  simp; omega
 have htake : ∀ a ∈ out.take k, a <= x := fun a ha => by
  obtain ⟨i, hi, rfl⟩ := List.mem_iff_getElem.1 ha;simp only [List.length_take] at hi
  rcases h3 with h3 | h3
  ·
   omega
  ·
   have := pw_get h (i := i) (j := k - 1) Om Om;simp [show i < out.length by omega] at this
   simp; omega
 rw [List.append_assoc];refine List.pairwise_append.2 ⟨h.sublist (List.take_sublist k out), ?_, fun a ha b hb => ?_⟩
 ·
  exact List.pairwise_cons.2 ⟨hdrop, h.sublist (List.drop_sublist k out)⟩
 ·
  have ha' := htake a ha;simp only [List.singleton_append, List.mem_cons] at hb
  rcases hb with rfl | hb
  ·
   exact ha'
  ·
   have := hdrop b hb; omega
def isortTo (l : List Int) (k : Nat) : List Int := (l.take k).foldl insI []
theorem isortTo_succ (l : List Int) (k : Nat) (h : k < l.length) : isortTo l (k + 1) = insI (isortTo l k) (l[k]?.getD 0) := by
 unfold isortTo; rw [take_succ_getD 0 l k h, List.foldl_append]; rfl
theorem isortTo_spec (l : List Int) (k : Nat) (h : k <= l.length) : (isortTo l k).Perm (l.take k) /\ (isortTo l k).Pairwise (· <= ·) := by
 induction k with
 | zero => simp [isortTo]
 | succ k ih =>
  obtain ⟨h1, h2⟩ := ih Om;rw [isortTo_succ l k Om, take_succ_getD 0 l k Om];refine ⟨((insI_perm _ _).trans (List.Perm.cons _ h1)).trans ?_, insI_sorted h2⟩;exact (List.perm_append_comm (l₁ := [l[k]?.getD 0]) (l₂ := l.take k))
theorem isortTo_len (l : List Int) (k : Nat) (h : k <= l.length) : (isortTo l k).length = k := by rw [(isortTo_spec l k h).1.length_eq]; simp; omega
theorem isort_eq (l : List Int) : isortTo l l.length = sortI l := by
 obtain ⟨h1, h2⟩ := isortTo_spec l l.length (Nat.le_refl _);rw [List.take_length] at h1;exact sortI_unique h1 h2
theorem foldl_max_spec (l : List Int) (a : Int) : a <= l.foldl max a /\ (∀ x ∈ l, x <= l.foldl max a) /\ (l.foldl max a = a ∨ l.foldl max a ∈ l) := by
 induction l generalizing a with
 | nil => simp
 | cons b r ih =>
  obtain ⟨h1, h2, h3⟩ := ih (max a b);simp only [List.foldl_cons];refine ⟨Om, fun x hx => ?_, ?_⟩
  ·
   rcases List.mem_cons.1 hx with rfl | hx
   ·
    omega
   ·
    exact h2 x hx
  ·
   rcases h3 with h3 | h3
   ·
    by_cases e : a <= b
    ·
     right; rw [h3, show max a b = b by omega]; simp
    ·
     left; rw [h3]; omega
   ·
    right; exact List.mem_cons_of_mem _ h3
theorem foldl_min_spec (l : List Int) (a : Int) : l.foldl min a <= a /\ (∀ x ∈ l, l.foldl min a <= x) /\ (l.foldl min a = a ∨ l.foldl min a ∈ l) := by
 induction l generalizing a with
 | nil => simp
 | cons b r ih =>
  obtain ⟨h1, h2, h3⟩ := ih (min a b);simp only [List.foldl_cons];refine ⟨Om, fun x hx => ?_, ?_⟩
  ·
   rcases List.mem_cons.1 hx with rfl | hx
   ·
    omega
   ·
    exact h2 x hx
  ·
   rcases h3 with h3 | h3
   ·
    by_cases e : b <= a
    ·
     right; rw [h3, show min a b = b by omega]; simp
    ·
     left; rw [h3]; omega
   ·
    right; exact List.mem_cons_of_mem _ h3
theorem maxOf_mem (h : 0 < l.length) : Lib.maxOf l ∈ l /\ ∀ x ∈ l, x <= Lib.maxOf l := by
 cases l with
 | nil => simp at h
 | cons a r =>
  obtain ⟨h1, h2, h3⟩ := foldl_max_spec (a :: r) a;refine ⟨?_, h2⟩
  rcases h3 with h3 | h3
  ·
   unfold Lib.maxOf; simp only [List.headD_cons]; rw [h3]; simp
  ·
   exact h3
theorem minOf_mem (h : 0 < l.length) : Lib.minOf l ∈ l /\ ∀ x ∈ l, Lib.minOf l <= x := by
 cases l with
 | nil => simp at h
 | cons a r =>
  obtain ⟨h1, h2, h3⟩ := foldl_min_spec (a :: r) a;refine ⟨?_, h2⟩
  rcases h3 with h3 | h3
  ·
   unfold Lib.minOf; simp only [List.headD_cons]; rw [h3]; simp
  ·
   exact h3
theorem sortI_last (h : 0 < l.length) : (sortI l)[l.length - 1]?.getD 0 = Lib.maxOf l := by
 obtain ⟨h1, h2⟩ := maxOf_mem h;have hl := sortI_len l;have m1 : (sortI l)[l.length - 1]?.getD 0 ∈ l := (sortI_perm l).mem_iff.1 (getD_mem 0 _ _ Om);have h3 := h2 _ m1;obtain ⟨i, hi, e⟩ := List.mem_iff_getElem.1 ((sortI_perm l).mem_iff.2 h1);have := pw_get (sortI_sorted l) (i := i) (j := l.length - 1) Om Om;simp only [List.getElem?_eq_getElem hi, Option.getD_some, e] at this;omega
theorem sortI_first (h : 0 < l.length) : (sortI l)[0]?.getD 0 = Lib.minOf l := by
 obtain ⟨h1, h2⟩ := minOf_mem h;have hl := sortI_len l;have m1 : (sortI l)[0]?.getD 0 ∈ l := (sortI_perm l).mem_iff.1 (getD_mem 0 _ _ Om);have h3 := h2 _ m1;obtain ⟨i, hi, e⟩ := List.mem_iff_getElem.1 ((sortI_perm l).mem_iff.2 h1);have := pw_get (sortI_sorted l) (i := 0) (j := i) Om Om;simp only [List.getElem?_eq_getElem hi, Option.getD_some, e] at this;omega
theorem maxInts_any (w : World) (A : OA) (n c : Nat) (l : List Int) (ha : RdI w A n l) (h0 : 0 < n) (hn : n <= 1099511627776) :
  Calls Tryz.prog 208 #[.slice A n c] w fun e w' => e = .returned (.int .i64 (Lib.maxOf l)) /\ w = w' := by
 have hl := ha.len;obtain ⟨b, off, rfl, hb, hc⟩ := ha.open_ h0;refine (Tryz.slices_Max_int b off n c l w h0 Om Om (fun j hj => hc j Om)).mono fun e w' h => ?_
 rw [List.take_of_length_le Om] at h;exact ⟨h.1, h.2.symm⟩
theorem minInts_any (w : World) (A : OA) (n c : Nat) (l : List Int) (ha : RdI w A n l) (h0 : 0 < n) (hn : n <= 1099511627776) :
  Calls Tryz.prog 209 #[.slice A n c] w fun e w' => e = .returned (.int .i64 (Lib.minOf l)) /\ w = w' := by
 have hl := ha.len;obtain ⟨b, off, rfl, hb, hc⟩ := ha.open_ h0;refine (Tryz.slices_Min_int b off n c l w h0 Om Om (fun j hj => hc j Om)).mono fun e w' h => ?_
 rw [List.take_of_length_le Om] at h;exact ⟨h.1, h.2.symm⟩
theorem RdI.drop_ {w : World} {b off n : Nat} (h : RdI w (some ⟨b, off, none⟩) n l) (j : Nat) (hj : j <= n) : RdI w (some ⟨b, off + j, none⟩) (n - j) (l.drop j) := by
 have hl := h.len;refine ⟨by simp; omega, fun hn => ?_⟩;obtain ⟨b', off', e, hlt, hc⟩ := h.2 Om;injection e with e;injection e with e1 e2;subst e1 e2;refine ⟨b, off + j, rfl, hlt, fun i u hu => ?_⟩;have := hc (j + i) u (by simpa [List.getElem?_drop] using hu);rw [Nat.add_assoc];exact this
theorem step_app_int {ops : Array Oper} {o : Oper} {a : Act} {K : Act -> World -> Prop} {Q : Exit -> Act -> World -> Prop} {E : Prop} (R : World) {W : World} (hgd : o.guard = none) (s x : Operand) (ho : o.op = .call { callee := .builtin .append, args := #[s, x], argTypes := #[25, 25] })
  (A : OA) (n c : Nat) (l : List Int) (hs : a.eval s = .slice A n c) {W₀ : World} (hown₀ : OwI R.heap.size W₀ A n c l) (hW₀ : Below W₀.heap.size W₀ W) (hR : Below R.heap.size R W)
  (B : OA) (m d : Nat) (r : List Int) (hx : a.eval x = .slice B m d) {W₁ : World} (hr₁ : RdI W₁ B m r) (hW₁ : Below W₁.heap.size W₁ W) (hn : n + m <= 1099511627776)
  (h : ∀ A' c' y, OwI R.heap.size (ext R y) A' (n + m) c' (l ++ r) -> W.grownBy (ext R y) (blkOf A) -> (blkOf A' = blkOf A ∨ blkOf A' = some W.heap.size) -> K (a.put o.dst (.slice A' (n + m) c')) (ext R y)) :
  if Region.wanted o (yielded ops a.tmps) = true then Oper.wp Tryz.prog o a W K Q else E := by
 have hw : Region.wanted o (yielded ops a.tmps) = true := by simp [Region.wanted, hgd]
 rw [if_pos hw];have hown := hown₀.below hW₀;have hr := hr₁.below hW₁;obtain ⟨i0, hi0, hz0, hz1, hz2⟩ := info_parts int_info;obtain ⟨v', w', hrun, h2, h3, h4⟩ := run_append_rd (P := Tryz.prog) W R.heap.size 25 o.type 3 i0 (.int .i64 0) 1 8 Tryz.underlying25 hi0 hz0 hz1 hz2 rfl Om (.slice A n c) n (l.map (Value.int .i64)) hown B m d (r.map (Value.int .i64)) hr
  (by intro u hu; simp only [List.mem_map] at hu; obtain ⟨z, _, rfl⟩ := hu; rfl) (by simp only [maxLen]; omega) Om hR.size
 unfold Oper.wp execOp;simp only [ho, resolve, invoke, builtin, Sem.run_bind, Sem.run_pure, Result.andThen_ok, List.map_toArray, List.map_cons, List.map_nil, hs, hx, hrun];rw [ownBlock_slice] at h3 h4;have hBw : Below R.heap.size R w' := below_grown hR h3 (fun k hk => (hown.blk hk).1);obtain ⟨y, rfl⟩ := ext_ex hBw;have hm : l.map (Value.int .i64) ++ r.map (Value.int .i64) = (l ++ r).map (Value.int .i64) := by simp
 rw [hm] at h2
 rcases h2.2 with ⟨hv, h0⟩ | ⟨g', cap, cur, hv, hrest⟩
 ·
  subst hv;rw [ownBlock_slice] at h4;have e : Value.slice none 0 0 = .slice none (n + m) 0 := by rw [h0]
  rw [e] at h2 ⊢;exact h none 0 y h2 h3 h4
 ·
  subst hv;rw [ownBlock_slice] at h4;exact h _ _ y h2 h3 h4
theorem RdI.one_ {w : World} {b : Nat} (hb : b < w.heap.size) (h : w.cell? ⟨b, 0, none⟩ = some (.int .i64 x)) : RdI w (some ⟨b, 0, none⟩) 1 [x] :=
 ⟨by simp, fun _ => ⟨b, 0, rfl, hb, fun j u hu => by
  match j with
  | 0 => simp at hu; subst hu; exact h
  | j + 1 => simp at hu⟩⟩
theorem worths_any (w : World) (A B : OA) (n m c d : Nat) (els : List El) (q0 q1 q2 q3 : Int) (NA MA : OA) (nn nc mn mc : Nat) (it : It) (ha : RdEl w A n els) (hn : n <= 1099511627776) (hC : CodeG els q0 q1 q2) (hN : RdT w NA nn it.1) (hM : RdI w MA mn it.2.1) (hI : ItG els it) :
  Calls Tryz.prog 207 #[.agg #[.slice A n c, .slice B m d, .int .i64 q0, .int .i64 q1, .int .i64 q2, .int .i64 q3], .agg #[.slice NA nn nc, .slice MA mn mc, .bool it.2.2]] w (RetI w (wTo els q2 it nn)) := by
 have Hn := Lib.hid hN.len;have Hm := Lib.hid hM.len;have hI1 := hI.1.2;have hIm := hI.2.1;rw [Hn.out] at hI1 hIm;rw [Hm.out] at hIm;obtain rfl := hIm.symm;obtain ⟨hq1, hq2⟩ := hC.2.2;have hkn := hI.2.2;rw [Hn.out] at hkn;have hB := hC.1;have Hel := Lib.hid ha.len;obtain ⟨late, hlate⟩ : ∃ l, it.2.2 = l := ⟨_, rfl⟩;rw [hlate];clear hlate hC hI;go_enter Tryz.func207, Tryz.ntmps207;go_wp2
 go_loopw [5, 6, 7, 12] (fun t _ _ i wr => ∃ (k : Nat) (D : OA) (dc : Nat) (y : World), k <= nn /\ i = .int .i64 k /\ t = .slice D k dc /\ wr = ext ((w.alloc (oC A n c B m d q0 q1 q2 q3)).alloc (.cells #[.slice NA nn nc, .slice MA nn mc, .bool late] 61)) y /\ OwI ((w.alloc (oC A n c B m d q0 q1 q2 q3)).alloc (.cells #[.slice NA nn nc, .slice MA nn mc, .bool late] 61)).heap.size (ext ((w.alloc (oC A n c B m d q0 q1 q2 q3)).alloc (.cells #[.slice NA nn nc, .slice MA nn mc, .bool late] 61)) y) D k dc (wTo els q2 it k)) (fun _ _ _ i _ => nn - (intOf i).toNat)
 case atStart => 
  obtain ⟨y, hy⟩ := ext_ex (show Below ((w.alloc (oC A n c B m d q0 q1 q2 q3)).alloc (.cells #[.slice NA nn nc, .slice MA nn mc, .bool late] 61)).heap.size ((w.alloc (oC A n c B m d q0 q1 q2 q3)).alloc (.cells #[.slice NA nn nc, .slice MA nn mc, .bool late] 61)) (((w.alloc (oC A n c B m d q0 q1 q2 q3)).alloc (.cells #[.slice NA nn nc, .slice MA nn mc, .bool late] 61)).alloc (.cells #[] 3)) from bL);have o0 := OwI.lit_ (Below.refl _ ((w.alloc (oC A n c B m d q0 q1 q2 q3)).alloc (.cells #[.slice NA nn nc, .slice MA nn mc, .bool late] 61))) [] (by simp [maxLen]) #[] rfl;rw [hy] at o0;exact ⟨0, _, 0, y, Om, rfl, rfl, hy, by simpa [go_sem, wTo] using o0⟩
 case round =>
  obtain ⟨k, D, dc, y, hk, rfl, rfl, rfl, ho⟩ := hrel;by_cases hlt : k < nn
  ·
   obtain ⟨bn, on, rfl, hbn, hcn⟩ := hN.open_ Om;obtain ⟨bm, om, rfl, hbm, hcm⟩ := hM.open_ Om;have hcnk : w.cell? ⟨bn, on + k, none⟩ = some (.string (nmAt it k)) := hcn k hlt;have hcmk : w.cell? ⟨bm, om + k, none⟩ = some (.int .i64 (mkAt it k)) := by have := hcm k Om; rwa [List.getD_eq_getElem?_getD] at this
   obtain ⟨i, hfi, hin⟩ := findE_nat (show 0 <= findE els (nmAt it k) from hkn k hlt);have HS := Lib.hid (show wTo els q2 it (k + 1) = wTo els q2 it k ++ [worthV q2 (els[i]?.getD zEl).2.2.2 (mkAt it k)] by rw [wTo_succ, wAt, hfi]; rfl);have hbd := hB i hin;rw [Hel.out] at hin;have ha0 := ha;obtain ⟨b, off, rfl, hb0, hc0, hc1, hc2, hc3⟩ := ha.at_ i hin;have cf := fun W h => findElement_any W (some ⟨b, off, none⟩) B n m c d els q0 q1 q2 q3 (nmAt it k) (ha0.below h) hn
   simp only [hfi] at cf;clear hcn hcm hkn hfi ha hB;have hkb : k <= 1099511627776 := Om;generalize wTo els q2 it k = out at *;generalize nmAt it k = nm at *;generalize mkAt it k = mk at *;generalize els[i]?.getD zEl = E at *;obtain ⟨e0, e1, e2, e3⟩ := E;simp only at hc0 hc1 hc2 hc3 hbd HS;have cw := fun W => worthOf_any W (some ⟨b, off, none⟩) B n m c d q0 q1 q2 q3 e0 e1 e2 e3 mk hbd.1 hbd.2 hq2.1 hq2.2
   generalize worthV q2 e3 mk = v at *;have hS := fun W h => kS (R := ((w.alloc (.cells #[.slice (some ⟨b, off, none⟩) n c, .slice B m d, .int .i64 q0, .int .i64 q1, .int .i64 q2, .int .i64 q3] 27)).alloc (.cells #[.slice (some ⟨bn, on, none⟩) nn nc, .slice (some ⟨bm, om, none⟩) nn mc, .bool late] 61))) (W := W) (l := [(⟨w.heap.size, 0, none⟩, .slice (some ⟨b, off, none⟩) n c), (⟨w.heap.size, 1, none⟩, .slice B m d), (⟨w.heap.size, 2, none⟩, .int .i64 q0), (⟨w.heap.size, 3, none⟩, .int .i64 q1), (⟨w.heap.size, 4, none⟩, .int .i64 q2), (⟨w.heap.size, 5, none⟩, .int .i64 q3), (⟨w.heap.size + 1, 0, none⟩, .slice (some ⟨bn, on, none⟩) nn nc), (⟨w.heap.size + 1, 1, none⟩, .slice (some ⟨bm, om, none⟩) nn mc), (⟨w.heap.size + 1, 2, none⟩, .bool late), (⟨bm, om + k, none⟩, .int .i64 mk), (⟨b, off + i * 4, none⟩, .string e0), (⟨b, off + i * 4 + 1, none⟩, .int .i64 e1), (⟨b, off + i * 4 + 2, none⟩, .int .i64 e2), (⟨b, off + i * 4 + 3, none⟩, .int .i64 e3)]) h
   have fn1 := ((by repeat (first | exact Below.refl _ _ | assumption | refine bExt ?_ _ | refine bAlloc ?_ _ | refine bDrewN ?_ _ | refine bDrew ?_ | refine bSet ?_ (by first | exact Nat.le_refl _ | omega | (simp; done) | (simp; omega)) _) : Below w.heap.size w (ext ((w.alloc (.cells #[.slice (some ⟨b, off, none⟩) n c, .slice B m d, .int .i64 q0, .int .i64 q1, .int .i64 q2, .int .i64 q3] 27)).alloc (.cells #[.slice (some ⟨bn, on, none⟩) nn nc, .slice (some ⟨bm, om, none⟩) nn mc, .bool late] 61)) y)).cell (p := ⟨bn, on + k, none⟩) hbn).trans hcnk;have fm1 := ((by repeat (first | exact Below.refl _ _ | assumption | refine bExt ?_ _ | refine bAlloc ?_ _ | refine bDrewN ?_ _ | refine bDrew ?_ | refine bSet ?_ (by first | exact Nat.le_refl _ | omega | (simp; done) | (simp; omega)) _) : Below w.heap.size w (ext ((w.alloc (.cells #[.slice (some ⟨b, off, none⟩) n c, .slice B m d, .int .i64 q0, .int .i64 q1, .int .i64 q2, .int .i64 q3] 27)).alloc (.cells #[.slice (some ⟨bn, on, none⟩) nn nc, .slice (some ⟨bm, om, none⟩) nn mc, .bool late] 61)) y)).cell (p := ⟨bm, om + k, none⟩) hbm).trans hcmk;go_wp2
   go_region_held3 (fun w' => w'.cell? ⟨w.heap.size, 0, none⟩ = some (.slice (some ⟨b, off, none⟩) n c) /\ w'.cell? ⟨w.heap.size, 1, none⟩ = some (.slice B m d) /\ w'.cell? ⟨w.heap.size, 2, none⟩ = some (.int .i64 q0) /\ w'.cell? ⟨w.heap.size, 3, none⟩ = some (.int .i64 q1) /\ w'.cell? ⟨w.heap.size, 4, none⟩ = some (.int .i64 q2) /\ w'.cell? ⟨w.heap.size, 5, none⟩ = some (.int .i64 q3) /\ w'.cell? ⟨w.heap.size + 1, 0, none⟩ = some (.slice (some ⟨bn, on, none⟩) nn nc) /\ w'.cell? ⟨w.heap.size + 1, 1, none⟩ = some (.slice (some ⟨bm, om, none⟩) nn mc) /\ w'.cell? ⟨w.heap.size + 1, 2, none⟩ = some (.bool late) /\ w'.cell? ⟨bm, om + k, none⟩ = some (.int .i64 mk) /\ w'.cell? ⟨b, off + i * 4, none⟩ = some (.string e0) /\ w'.cell? ⟨b, off + i * 4 + 1, none⟩ = some (.int .i64 e1) /\ w'.cell? ⟨b, off + i * 4 + 2, none⟩ = some (.int .i64 e2) /\ w'.cell? ⟨b, off + i * 4 + 3, none⟩ = some (.int .i64 e3)) (exact hS _ bL) (first | (go_at_call 234; ((with_reducible refine ex (cf _ bL) ?_); intro y3)) | (go_at_call 235; ((with_reducible refine ex (cw _) ?_); intro y4)) | (refine step_app_int ((w.alloc (.cells #[.slice (some ⟨b, off, none⟩) n c, .slice B m d, .int .i64 q0, .int .i64 q1, .int .i64 q2, .int .i64 q3] 27)).alloc (.cells #[.slice (some ⟨bn, on, none⟩) nn nc, .slice (some ⟨bm, om, none⟩) nn mc, .bool late] 61)) rfl _ _ rfl D _ dc out rfl ho ?_ ?_ _ 1 1 [v] rfl (RdI.one_ ?_ ?_) bR Om ?_; exact bL; exact bL; (focus (simp [go_sem])); (focus (simp [go_sem])); intro D' dc' z ho' hg hd))
   go_wp2;rw [<- HS.out] at ho';go_roundw
   case rel => exact ⟨k + 1, D', dc', _, Om, by go_num, rfl, rfl, ho'⟩
   case measure => simp [intOf]; omega
  ·
   obtain rfl : k = nn := Om;go_wp2;go_ret;exact RetI.mk_ ho (by simp [go_sem]; omega) bL
theorem fullBase_any (w : World) (A B : OA) (n m c d : Nat) (els : List El) (q0 q1 q2 q3 : Int) (NA MA : OA) (nn nc mn mc : Nat) (it : It) (ha : RdEl w A n els) (hn : n <= 1099511627776) (hC : CodeG els q0 q1 q2) (hN : RdT w NA nn it.1) (hM : RdI w MA mn it.2.1) (hI : ItG els it) :
  Calls Tryz.prog 159 #[.agg #[.slice A n c, .slice B m d, .int .i64 q0, .int .i64 q1, .int .i64 q2, .int .i64 q3], .agg #[.slice NA nn nc, .slice MA mn mc, .bool it.2.2]] w fun e w' => e = .returned (.int .i64 (fullV els q1 q2 it)) /\ ∃ y, w' = ext w y := by
 have Hn := Lib.hid hN.len;have hbd := wTo_bd hC hI;have hmul := full_mul hC hI;rw [Hn.out] at hmul;have hI1 := hI.1.2;rw [Hn.out] at hI1;have HV : Hid (fullV els q1 q2 it = if it.2.2 then roundV (wSum els q2 it nn * (100 + q1)) 100 else wSum els q2 it nn) := by unfold Hid fullV; rw [Hn.out]
 have cw := fun W h => worths_any W A B n m c d els q0 q1 q2 q3 NA MA nn nc mn mc it (ha.below h) hn hC (hN.below h) (hM.below h) hI
 have HB : Hid (∀ x ∈ wTo els q2 it nn, -100000 <= x /\ x <= 100000) := fun x hx => by have := hbd nn (by rw [Hn.out]; exact Nat.le_refl _) x hx; omega
 have HE := Lib.hid (wSum_to els q2 it nn);have hln := wTo_len els q2 it nn;obtain ⟨hq1, hq2⟩ := hC.2.2;obtain ⟨late, hlate⟩ : ∃ l, it.2.2 = l := ⟨_, rfl⟩;rw [hlate] at HV cw ⊢;clear hlate hbd;generalize hl : wTo els q2 it nn = l at *;clear hl;generalize wSum els q2 it nn = s at *
 cases late
 ·
  go_enter Tryz.func159, Tryz.ntmps159;go_wp2_with (first | (go_at_call 207; ((with_reducible refine (cw _ bL).mono ?_); rintro e w' ⟨A1, n1, c1, x1, rfl, rfl, o1⟩; (obtain rfl : n1 = nn := o1.len.symm.trans hln))) | (go_at_call 138; (with_reducible refine ep (sumInts_any _ _ _ _ _ o1.rd Om HB.out) ?_)))
  go_ret;exact ⟨ret_int (by rw [HV.out, HE.out]; rfl), ext_ex bL⟩
 ·
  have e1 : IntKind.i64.wrap (s * (100 + q1)) = s * (100 + q1) := IntWalk.i64_in _ Om;have cr := fun W => roundDiv_any (s * (100 + q1)) 100 W Om Om Om Om
  rw [<- HE.out] at cr e1;go_enter Tryz.func159, Tryz.ntmps159;go_wp2_with (first | (go_at_call 207; ((with_reducible refine (cw _ bL).mono ?_); rintro e w' ⟨A1, n1, c1, x1, rfl, rfl, o1⟩; (obtain rfl : n1 = nn := o1.len.symm.trans hln))) | (go_at_call 138; (with_reducible refine ep (sumInts_any _ _ _ _ _ o1.rd Om HB.out) ?_)) | (go_at_call 161; (with_reducible refine ep (cr _) ?_)))
  go_ret;exact ⟨ret_int (by rw [HV.out, <- HE.out]; rfl), ext_ex bL⟩
def ItsG (els : List El) (its : List It) : Prop := ∀ j, j < its.length -> ItG els (its[j]?.getD zIt)
theorem repHit_no {its : List It} {k j : Nat} (h : ((nmAt (its[j]?.getD zIt) 0).toList == (nmAt (its[k]?.getD zIt) 0).toList) = false) : repHit its k j = false := by rw [repHit, h]; rfl
theorem repHit_3 {its : List It} {k j : Nat} (h : mkAt (its[j]?.getD zIt) 0 = 3) : repHit its k j = false := by rw [repHit, h]; simp
theorem repHit_yes {its : List It} {k j : Nat} (h : ((nmAt (its[j]?.getD zIt) 0).toList == (nmAt (its[k]?.getD zIt) 0).toList) = true) (h2 : ¬ mkAt (its[j]?.getD zIt) 0 = 3) : repHit its k j = true := by rw [repHit, h]; simp [h2]
theorem bsRepeats_any (w : World) (A : OA) (n c : Nat) (els : List El) (its : List It) (k : Nat) (ha : RdIt w A n its) (hk : k < n) (hn : n <= 1099511627776) (hc : n <= c) (hI : ItsG els its) :
  Calls Tryz.prog 168 #[.slice A n c, .int .i64 k] w fun e w' => e = .returned (.int .i64 (repTo its k k)) /\ ∃ y, w' = ext w y := by
 have Hl := Lib.hid ha.len;go_enter Tryz.func168, Tryz.ntmps168;go_wp2
 go_loopw [5, 7, 12] (fun t _ i wr => ∃ (j : Nat) (y : World), j <= k /\ i = .int .i64 j /\ t = .int .i64 (repTo its k j) /\ wr = ext w y) (fun _ _ i _ => k - (intOf i).toNat)
 case atStart => exact ⟨0, _, Om, rfl, rfl, ext_self _⟩
 case round =>
  obtain ⟨j, y, hj, rfl, rfl, rfl⟩ := hrel;by_cases hlt : j < k
  ·
   have hjn : j < n := Om;obtain ⟨b, off, NA, nn, nc, MA, mn, mc, rfl, hb0, hc0, hc1, hc2, hN, hM, _, _⟩ := ha.at_ j hjn;obtain ⟨b', off', NK, nk, ck, MK, mk, dk, e, hbk, hk0, hk1, hk2, hNk, hMk, _, _⟩ := ha.at_ k hk;obtain ⟨rfl, rfl⟩ : b = b' /\ off = off' := by simpa using e
   clear e;have hj1 := hI j (by rw [Hl.out]; exact hjn);have hk1' := hI k (by rw [Hl.out]; exact hk);have HY := @repHit_yes its k j;have HN := @repHit_no its k j;have H3 := @repHit_3 its k j;have HA := @repTo_yes its k j;have HB := @repTo_no its k j;have hbd := repTo_bd its k j;have nn1 : 1 <= nn := by rw [<- hN.len]; exact hj1.1.1
   have mn1 : 1 <= mn := by rw [<- hM.len, hj1.2.1]; exact hj1.1.1
   have nk1 : 1 <= nk := by rw [<- hNk.len]; exact hk1'.1.1
   obtain ⟨bn, on, rfl, hbn, hcn⟩ := hN.open_ Om;obtain ⟨bm, om, rfl, hbm, hcm⟩ := hM.open_ Om;obtain ⟨bo, oo, rfl, hbo, hco⟩ := hNk.open_ Om;have c0 : w.cell? ⟨bn, on, none⟩ = some (.string (nmAt (its[j]?.getD zIt) 0)) := hcn 0 nn1;have c1 : w.cell? ⟨bm, om, none⟩ = some (.int .i64 (mkAt (its[j]?.getD zIt) 0)) := by have := hcm 0 mn1; rwa [List.getD_eq_getElem?_getD] at this
   have c2 : w.cell? ⟨bo, oo, none⟩ = some (.string (nmAt (its[k]?.getD zIt) 0)) := hco 0 nk1;clear hcn hcm hco hj1 hk1' hN hM hNk hMk;generalize nmAt (its[j]?.getD zIt) 0 = s0 at *;generalize mkAt (its[j]?.getD zIt) 0 = m0 at *;generalize nmAt (its[k]?.getD zIt) 0 = s1 at *;have HY := Lib.hid HY;have HN := Lib.hid HN;have H3 := Lib.hid H3;have HA := Lib.hid HA;have HB := Lib.hid HB;have kc : k <= c := Om
   cases he : (s0.toList == s1.toList)
   ·
    have HR := Lib.hid (HB.out (HN.out he));generalize repTo its k j = t at *;go_wp2
    go_quiet (fail)
    go_wp2;go_roundw
    case rel => exact ⟨j + 1, _, Om, by go_num, by rw [HR.out], (ext_ex bL).choose_spec⟩
    case measure => simp [intOf]; omega
   ·
    by_cases h3 : m0 = 3
    ·
     have HR := Lib.hid (HB.out (H3.out h3));subst h3;generalize repTo its k j = t at *;go_wp2
     go_quiet (fail)
     go_wp2;go_roundw
     case rel => exact ⟨j + 1, _, Om, by go_num, by rw [HR.out], (ext_ex bL).choose_spec⟩
     case measure => simp [intOf]; omega
    ·
     have HR := Lib.hid (HA.out (HY.out he h3));have b3 : (m0 == 3) = false := by simp [h3]
     generalize repTo its k j = t at *;have e0 : IntKind.i64.wrap (t + 1) = t + 1 := IntWalk.i64_in _ Om;go_wp2
     go_quiet (fail)
     go_wp2;go_roundw
     case rel => exact ⟨j + 1, _, Om, by go_num, by rw [HR.out], (ext_ex bL).choose_spec⟩
     case measure => simp [intOf]; omega
  ·
   obtain rfl : j = k := Om;go_wp2;go_ret;exact ⟨ret_int rfl, ext_ex bL⟩
theorem repeatsOf_any (w : World) (A : OA) (n c : Nat) (els : List El) (its : List It) (k : Nat) (ha : RdIt w A n its) (hk : k < n) (hn : n <= 1099511627776) (hc : n <= c) (hI : ItsG els its) :
  Calls Tryz.prog 158 #[.slice A n c, .int .i64 k] w fun e w' => e = .returned (.int .i64 (repTo its k k)) /\ ∃ y, w' = ext w y := by
 have Hl := Lib.hid ha.len;go_enter Tryz.func158, Tryz.ntmps158;go_wp2
 go_loopw [5, 7, 12] (fun t _ i wr => ∃ (j : Nat) (y : World), j <= k /\ i = .int .i64 j /\ t = .int .i64 (repTo its k j) /\ wr = ext w y) (fun _ _ i _ => k - (intOf i).toNat)
 case atStart => exact ⟨0, _, Om, rfl, rfl, ext_self _⟩
 case round =>
  obtain ⟨j, y, hj, rfl, rfl, rfl⟩ := hrel;by_cases hlt : j < k
  ·
   have hjn : j < n := Om;obtain ⟨b, off, NA, nn, nc, MA, mn, mc, rfl, hb0, hc0, hc1, hc2, hN, hM, _, _⟩ := ha.at_ j hjn;obtain ⟨b', off', NK, nk, ck, MK, mk, dk, e, hbk, hk0, hk1, hk2, hNk, hMk, _, _⟩ := ha.at_ k hk;obtain ⟨rfl, rfl⟩ : b = b' /\ off = off' := by simpa using e
   clear e;have hj1 := hI j (by rw [Hl.out]; exact hjn);have hk1' := hI k (by rw [Hl.out]; exact hk);have HY := @repHit_yes its k j;have HN := @repHit_no its k j;have H3 := @repHit_3 its k j;have HA := @repTo_yes its k j;have HB := @repTo_no its k j;have hbd := repTo_bd its k j;have nn1 : 1 <= nn := by rw [<- hN.len]; exact hj1.1.1
   have mn1 : 1 <= mn := by rw [<- hM.len, hj1.2.1]; exact hj1.1.1
   have nk1 : 1 <= nk := by rw [<- hNk.len]; exact hk1'.1.1
   obtain ⟨bn, on, rfl, hbn, hcn⟩ := hN.open_ Om;obtain ⟨bm, om, rfl, hbm, hcm⟩ := hM.open_ Om;obtain ⟨bo, oo, rfl, hbo, hco⟩ := hNk.open_ Om;have c0 : w.cell? ⟨bn, on, none⟩ = some (.string (nmAt (its[j]?.getD zIt) 0)) := hcn 0 nn1;have c1 : w.cell? ⟨bm, om, none⟩ = some (.int .i64 (mkAt (its[j]?.getD zIt) 0)) := by have := hcm 0 mn1; rwa [List.getD_eq_getElem?_getD] at this
   have c2 : w.cell? ⟨bo, oo, none⟩ = some (.string (nmAt (its[k]?.getD zIt) 0)) := hco 0 nk1;clear hcn hcm hco hj1 hk1' hN hM hNk hMk;generalize nmAt (its[j]?.getD zIt) 0 = s0 at *;generalize mkAt (its[j]?.getD zIt) 0 = m0 at *;generalize nmAt (its[k]?.getD zIt) 0 = s1 at *;have HY := Lib.hid HY;have HN := Lib.hid HN;have H3 := Lib.hid H3;have HA := Lib.hid HA;have HB := Lib.hid HB;have kc : k <= c := Om
   cases he : (s0.toList == s1.toList)
   ·
    have HR := Lib.hid (HB.out (HN.out he));generalize repTo its k j = t at *;go_wp2
    go_quiet (fail)
    go_wp2;go_roundw
    case rel => exact ⟨j + 1, _, Om, by go_num, by rw [HR.out], (ext_ex bL).choose_spec⟩
    case measure => simp [intOf]; omega
   ·
    by_cases h3 : m0 = 3
    ·
     have HR := Lib.hid (HB.out (H3.out h3));subst h3;generalize repTo its k j = t at *;go_wp2
     go_quiet (fail)
     go_wp2;go_roundw
     case rel => exact ⟨j + 1, _, Om, by go_num, by rw [HR.out], (ext_ex bL).choose_spec⟩
     case measure => simp [intOf]; omega
    ·
     have HR := Lib.hid (HA.out (HY.out he h3));have b3 : (m0 == 3) = false := by simp [h3]
     generalize repTo its k j = t at *;have e0 : IntKind.i64.wrap (t + 1) = t + 1 := IntWalk.i64_in _ Om;go_wp2
     go_quiet (fail)
     go_wp2;go_roundw
     case rel => exact ⟨j + 1, _, Om, by go_num, by rw [HR.out], (ext_ex bL).choose_spec⟩
     case measure => simp [intOf]; omega
  ·
   obtain rfl : j = k := Om;go_wp2;go_ret;exact ⟨ret_int rfl, ext_ex bL⟩
theorem bsItem_any (w : World) (A B : OA) (n m c d : Nat) (els : List El) (q0 q1 q2 q3 : Int) (I : OA) (n2 c2 : Nat) (its : List It) (k : Nat) (ha : RdEl w A n els) (hn : n <= 1099511627776) (hC : CodeG els q0 q1 q2) (hi : RdIt w I n2 its) (hk : k < n2) (hn2 : n2 <= 1099511627776) (hc2 : n2 <= c2) (hI : ItsG els its) :
  Calls Tryz.prog 117 #[.agg #[.slice A n c, .slice B m d, .int .i64 q0, .int .i64 q1, .int .i64 q2, .int .i64 q3], .slice I n2 c2, .int .i64 k] w fun e w' => e = .returned (.int .i64 (baseV els q0 q1 q2 its k)) /\ ∃ y, w' = ext w y := by
 have Hl := Lib.hid hi.len;have hIk := hI k (by rw [Hl.out]; exact hk);have hb := full_bd hC hIk;have cr := fun W h => bsRepeats_any W I n2 c2 els its k (hi.below h) hk hn2 hc2 hI
 obtain ⟨b, off, NA, nn, nc, MA, mn, mc, rfl, hb0, hc0, hc1, hc2', hN, hM, _, _⟩ := hi.at_ k hk;have cf := fun W h => bsFull_any W A B n m c d els q0 q1 q2 q3 NA MA nn nc mn mc (its[k]?.getD zIt) (ha.below h) hn hC (hN.below h) (hM.below h) hIk
 have HV : Hid (baseV els q0 q1 q2 its k = if repTo its k k < q0 then fullV els q1 q2 (its[k]?.getD zIt) else if repTo its k k = q0 then fullV els q1 q2 (its[k]?.getD zIt) * 7 / 10 else 0) := rfl;clear hN hM hIk hi hI hC;generalize repTo its k k = r at *;generalize its[k]?.getD zIt = it at *;generalize fullV els q1 q2 it = v at *;have hS := fun W h => kS (R := (w.alloc (oC A n c B m d q0 q1 q2 q3))) (W := W) (l := [(⟨w.heap.size, 0, none⟩, .slice A n c), (⟨w.heap.size, 1, none⟩, .slice B m d), (⟨w.heap.size, 2, none⟩, .int .i64 q0), (⟨w.heap.size, 3, none⟩, .int .i64 q1), (⟨w.heap.size, 4, none⟩, .int .i64 q2), (⟨w.heap.size, 5, none⟩, .int .i64 q3), (⟨b, off + k * 3, none⟩, .slice NA nn nc), (⟨b, off + k * 3 + 1, none⟩, .slice MA mn mc), (⟨b, off + k * 3 + 2, none⟩, .bool it.2.2)]) h
 clear hc0 hc1 hc2';by_cases h1 : r < q0
 ·
  go_enter Tryz.func117, Tryz.ntmps117;go_wp2
  go_region_held3 (fun w' => w'.cell? ⟨w.heap.size, 0, none⟩ = some (.slice A n c) /\ w'.cell? ⟨w.heap.size, 1, none⟩ = some (.slice B m d) /\ w'.cell? ⟨w.heap.size, 2, none⟩ = some (.int .i64 q0) /\ w'.cell? ⟨w.heap.size, 3, none⟩ = some (.int .i64 q1) /\ w'.cell? ⟨w.heap.size, 4, none⟩ = some (.int .i64 q2) /\ w'.cell? ⟨w.heap.size, 5, none⟩ = some (.int .i64 q3) /\ w'.cell? ⟨b, off + k * 3, none⟩ = some (.slice NA nn nc) /\ w'.cell? ⟨b, off + k * 3 + 1, none⟩ = some (.slice MA mn mc) /\ w'.cell? ⟨b, off + k * 3 + 2, none⟩ = some (.bool it.2.2)) (exact hS _ bL) (first | (go_at_call 168; ((with_reducible refine ex (cr _ bL) ?_); intro y1)) | (go_at_call 167; ((with_reducible refine ex (cf _ bL) ?_); intro y2)))
  all_goals
   go_wp2_with (first | (go_at_call 168; ((with_reducible refine ex (cr _ bL) ?_); intro y1)) | (go_at_call 167; ((with_reducible refine ex (cf _ bL) ?_); intro y2)))
   go_ret;exact ⟨ret_int (by rw [HV.out, if_pos h1]), ext_ex bL⟩
 ·
  by_cases h2 : r = q0
  ·
   obtain rfl := h2.symm;have HW := Lib.hid (show baseV els q0 q1 q2 its k = v * 7 / 10 by rw [HV.out, if_neg h1, if_pos rfl]);have e3 : (v * 7).tdiv 10 = v * 7 / 10 := Int.tdiv_eq_ediv_of_nonneg Om;have e4 : IntKind.i64.wrap (v * 7) = v * 7 := IntWalk.i64_in _ Om;have e5 : IntKind.i64.wrap (v * 7 / 10) = v * 7 / 10 := IntWalk.i64_in _ Om;clear HV h1;go_enter Tryz.func117, Tryz.ntmps117;go_wp2
   go_region_held3 (fun w' => w'.cell? ⟨w.heap.size, 0, none⟩ = some (.slice A n c) /\ w'.cell? ⟨w.heap.size, 1, none⟩ = some (.slice B m d) /\ w'.cell? ⟨w.heap.size, 2, none⟩ = some (.int .i64 q0) /\ w'.cell? ⟨w.heap.size, 3, none⟩ = some (.int .i64 q1) /\ w'.cell? ⟨w.heap.size, 4, none⟩ = some (.int .i64 q2) /\ w'.cell? ⟨w.heap.size, 5, none⟩ = some (.int .i64 q3) /\ w'.cell? ⟨b, off + k * 3, none⟩ = some (.slice NA nn nc) /\ w'.cell? ⟨b, off + k * 3 + 1, none⟩ = some (.slice MA mn mc) /\ w'.cell? ⟨b, off + k * 3 + 2, none⟩ = some (.bool it.2.2)) (exact hS _ bL) (first | (go_at_call 168; ((with_reducible refine ex (cr _ bL) ?_); intro y1)) | (go_at_call 167; ((with_reducible refine ex (cf _ bL) ?_); intro y2)))
   all_goals
    go_wp2_with (first | (go_at_call 168; ((with_reducible refine ex (cr _ bL) ?_); intro y1)) | (go_at_call 167; ((with_reducible refine ex (cf _ bL) ?_); intro y2)))
    go_ret;exact ⟨ret_int (by rw [HW.out]), ext_ex bL⟩
  ·
   have b2 : (r == q0) = false := by simp [h2]
   have HW := Lib.hid (show baseV els q0 q1 q2 its k = 0 by rw [HV.out, if_neg h1, if_neg h2]);clear HV;go_enter Tryz.func117, Tryz.ntmps117;go_wp2
   go_region_held3 (fun w' => w'.cell? ⟨w.heap.size, 0, none⟩ = some (.slice A n c) /\ w'.cell? ⟨w.heap.size, 1, none⟩ = some (.slice B m d) /\ w'.cell? ⟨w.heap.size, 2, none⟩ = some (.int .i64 q0) /\ w'.cell? ⟨w.heap.size, 3, none⟩ = some (.int .i64 q1) /\ w'.cell? ⟨w.heap.size, 4, none⟩ = some (.int .i64 q2) /\ w'.cell? ⟨w.heap.size, 5, none⟩ = some (.int .i64 q3) /\ w'.cell? ⟨b, off + k * 3, none⟩ = some (.slice NA nn nc) /\ w'.cell? ⟨b, off + k * 3 + 1, none⟩ = some (.slice MA mn mc) /\ w'.cell? ⟨b, off + k * 3 + 2, none⟩ = some (.bool it.2.2)) (exact hS _ bL) (first | (go_at_call 168; ((with_reducible refine ex (cr _ bL) ?_); intro y1)) | (go_at_call 167; ((with_reducible refine ex (cf _ bL) ?_); intro y2)))
   all_goals
    go_wp2_with (first | (go_at_call 168; ((with_reducible refine ex (cr _ bL) ?_); intro y1)) | (go_at_call 167; ((with_reducible refine ex (cf _ bL) ?_); intro y2)))
    go_ret;exact ⟨ret_int (by rw [HW.out]), ext_ex bL⟩
theorem itemBase_any (w : World) (A B : OA) (n m c d : Nat) (els : List El) (q0 q1 q2 q3 : Int) (I : OA) (n2 c2 : Nat) (its : List It) (k : Nat) (ha : RdEl w A n els) (hn : n <= 1099511627776) (hC : CodeG els q0 q1 q2) (hi : RdIt w I n2 its) (hk : k < n2) (hn2 : n2 <= 1099511627776) (hc2 : n2 <= c2) (hI : ItsG els its) :
  Calls Tryz.prog 110 #[.agg #[.slice A n c, .slice B m d, .int .i64 q0, .int .i64 q1, .int .i64 q2, .int .i64 q3], .slice I n2 c2, .int .i64 k] w fun e w' => e = .returned (.int .i64 (baseV els q0 q1 q2 its k)) /\ ∃ y, w' = ext w y := by
 have Hl := Lib.hid hi.len;have hIk := hI k (by rw [Hl.out]; exact hk);have hb := full_bd hC hIk;have cr := fun W h => repeatsOf_any W I n2 c2 els its k (hi.below h) hk hn2 hc2 hI
 obtain ⟨b, off, NA, nn, nc, MA, mn, mc, rfl, hb0, hc0, hc1, hc2', hN, hM, _, _⟩ := hi.at_ k hk;have cf := fun W h => fullBase_any W A B n m c d els q0 q1 q2 q3 NA MA nn nc mn mc (its[k]?.getD zIt) (ha.below h) hn hC (hN.below h) (hM.below h) hIk
 have HV : Hid (baseV els q0 q1 q2 its k = if repTo its k k < q0 then fullV els q1 q2 (its[k]?.getD zIt) else if repTo its k k = q0 then fullV els q1 q2 (its[k]?.getD zIt) * 7 / 10 else 0) := rfl;clear hN hM hIk hi hI hC;generalize repTo its k k = r at *;generalize its[k]?.getD zIt = it at *;generalize fullV els q1 q2 it = v at *;have hS := fun W h => kS (R := (w.alloc (oC A n c B m d q0 q1 q2 q3))) (W := W) (l := [(⟨w.heap.size, 0, none⟩, .slice A n c), (⟨w.heap.size, 1, none⟩, .slice B m d), (⟨w.heap.size, 2, none⟩, .int .i64 q0), (⟨w.heap.size, 3, none⟩, .int .i64 q1), (⟨w.heap.size, 4, none⟩, .int .i64 q2), (⟨w.heap.size, 5, none⟩, .int .i64 q3), (⟨b, off + k * 3, none⟩, .slice NA nn nc), (⟨b, off + k * 3 + 1, none⟩, .slice MA mn mc), (⟨b, off + k * 3 + 2, none⟩, .bool it.2.2)]) h
 clear hc0 hc1 hc2';by_cases h1 : r < q0
 ·
  go_enter Tryz.func110, Tryz.ntmps110;go_wp2
  go_region_held3 (fun w' => w'.cell? ⟨w.heap.size, 0, none⟩ = some (.slice A n c) /\ w'.cell? ⟨w.heap.size, 1, none⟩ = some (.slice B m d) /\ w'.cell? ⟨w.heap.size, 2, none⟩ = some (.int .i64 q0) /\ w'.cell? ⟨w.heap.size, 3, none⟩ = some (.int .i64 q1) /\ w'.cell? ⟨w.heap.size, 4, none⟩ = some (.int .i64 q2) /\ w'.cell? ⟨w.heap.size, 5, none⟩ = some (.int .i64 q3) /\ w'.cell? ⟨b, off + k * 3, none⟩ = some (.slice NA nn nc) /\ w'.cell? ⟨b, off + k * 3 + 1, none⟩ = some (.slice MA mn mc) /\ w'.cell? ⟨b, off + k * 3 + 2, none⟩ = some (.bool it.2.2)) (exact hS _ bL) (first | (go_at_call 158; ((with_reducible refine ex (cr _ bL) ?_); intro y1)) | (go_at_call 159; ((with_reducible refine ex (cf _ bL) ?_); intro y2)))
  all_goals
   go_wp2;go_ret;exact ⟨ret_int (by rw [HV.out, if_pos h1]), ext_ex bL⟩
 ·
  by_cases h2 : r = q0
  ·
   obtain rfl := h2.symm;have HW := Lib.hid (show baseV els q0 q1 q2 its k = v * 7 / 10 by rw [HV.out, if_neg h1, if_pos rfl]);have e3 : (v * 7).tdiv 10 = v * 7 / 10 := Int.tdiv_eq_ediv_of_nonneg Om;have e4 : IntKind.i64.wrap (v * 7) = v * 7 := IntWalk.i64_in _ Om;have e5 : IntKind.i64.wrap (v * 7 / 10) = v * 7 / 10 := IntWalk.i64_in _ Om;clear HV h1;go_enter Tryz.func110, Tryz.ntmps110;go_wp2
   go_region_held3 (fun w' => w'.cell? ⟨w.heap.size, 0, none⟩ = some (.slice A n c) /\ w'.cell? ⟨w.heap.size, 1, none⟩ = some (.slice B m d) /\ w'.cell? ⟨w.heap.size, 2, none⟩ = some (.int .i64 q0) /\ w'.cell? ⟨w.heap.size, 3, none⟩ = some (.int .i64 q1) /\ w'.cell? ⟨w.heap.size, 4, none⟩ = some (.int .i64 q2) /\ w'.cell? ⟨w.heap.size, 5, none⟩ = some (.int .i64 q3) /\ w'.cell? ⟨b, off + k * 3, none⟩ = some (.slice NA nn nc) /\ w'.cell? ⟨b, off + k * 3 + 1, none⟩ = some (.slice MA mn mc) /\ w'.cell? ⟨b, off + k * 3 + 2, none⟩ = some (.bool it.2.2)) (exact hS _ bL) (first | (go_at_call 158; ((with_reducible refine ex (cr _ bL) ?_); intro y1)) | (go_at_call 159; ((with_reducible refine ex (cf _ bL) ?_); intro y2)))
   all_goals
    go_wp2;go_ret;exact ⟨ret_int (by rw [HW.out]), ext_ex bL⟩
  ·
   have b2 : (r == q0) = false := by simp [h2]
   have HW := Lib.hid (show baseV els q0 q1 q2 its k = 0 by rw [HV.out, if_neg h1, if_neg h2]);clear HV;go_enter Tryz.func110, Tryz.ntmps110;go_wp2
   go_region_held3 (fun w' => w'.cell? ⟨w.heap.size, 0, none⟩ = some (.slice A n c) /\ w'.cell? ⟨w.heap.size, 1, none⟩ = some (.slice B m d) /\ w'.cell? ⟨w.heap.size, 2, none⟩ = some (.int .i64 q0) /\ w'.cell? ⟨w.heap.size, 3, none⟩ = some (.int .i64 q1) /\ w'.cell? ⟨w.heap.size, 4, none⟩ = some (.int .i64 q2) /\ w'.cell? ⟨w.heap.size, 5, none⟩ = some (.int .i64 q3) /\ w'.cell? ⟨b, off + k * 3, none⟩ = some (.slice NA nn nc) /\ w'.cell? ⟨b, off + k * 3 + 1, none⟩ = some (.slice MA mn mc) /\ w'.cell? ⟨b, off + k * 3 + 2, none⟩ = some (.bool it.2.2)) (exact hS _ bL) (first | (go_at_call 158; ((with_reducible refine ex (cr _ bL) ?_); intro y1)) | (go_at_call 159; ((with_reducible refine ex (cf _ bL) ?_); intro y2)))
   all_goals
    go_wp2;go_ret;exact ⟨ret_int (by rw [HW.out]), ext_ex bL⟩
end Go.Proofs.YtlfhhkgleapamaaGreatDoor
