/- Contracts of functions over slices of ints: copies, comparisons, tests of all elements. Conditions: lengths below 2^40. -/
import Derived.Test.YtmeaklaagglmeaaGreatDoorXL1
set_option linter.unusedVariables false
set_option linter.unusedSimpArgs false
set_option maxRecDepth 100000
namespace Go.Proofs.YtmeaklaagglmeaaGreatDoor
open Go.RowKit
section
variable {P : Program} (w : World)
theorem run_append_of_nil (base : Nat) (t ty e : TypeId) (i : TypeInfo) (size : Nat) (ht : P.underlying t = some (.slice e)) (hi : P.info? e = some i)
  (v : Value) (n : Nat) (xs : List Value) (hown : w.ownsRow base e size v n xs) (c : Nat) : (Builtin.append_ #[t, t] ty #[v, .slice none 0 c]).run P w = .ok v w := by
 rcases hown.2 with ⟨rfl, rfl⟩ | ⟨g, cap, cur, rfl, _, _, hnc, _⟩
 ·
  simp [Builtin.append_, run_underlying ht, sizeOf, typeInfo, hi, Builtin.lenOf, Builtin.firstCells]
 ·
  simp [Builtin.append_, run_underlying ht, sizeOf, typeInfo, hi, Builtin.lenOf, Builtin.firstCells, hnc, storeCells]
theorem run_append_rd (base : Nat) (t ty e : TypeId) (i : TypeInfo) (z : Value) (size bytes : Nat) (ht : P.underlying t = some (.slice e)) (hi : P.info? e = some i) (hz : i.zero = some z)
  (hsize : i.size = size) (hby : i.bytes = bytes) (hzs : z.cells.size = size) (hsz : 0 < size)
  (v : Value) (n : Nat) (xs : List Value) (hown : w.ownsRow base e size v n xs)
  (A : Option Addr) (m c : Nat) (news : List Value) (hr : Rd size w A m news) (h1 : ∀ u ∈ news, u.oneCell' = true)
  (h63 : n + m ≤ maxLen) (hbytes : (n + m) * bytes ≤ 140737488355328) (hbase : base ≤ w.heap.size) :
  ∃ v' w', (Builtin.append_ #[t, t] ty #[v, .slice A m c]).run P w = .ok v' w' ∧ w'.ownsRow base e size v' (n + m) (xs ++ news) ∧ w.grownBy w' v.ownBlock ∧
   (v'.ownBlock = v.ownBlock ∨ v'.ownBlock = some w.heap.size) := by
 rcases A with _ | ad
 ·
  have hm : m = 0 := by
   rcases Nat.eq_zero_or_pos m with h0 | h0
   ·
    exact h0
   ·
    obtain ⟨b, off, h, _⟩ := hr.2 h0
    cases h
  subst hm
  have hn : news = [] := List.eq_nil_of_length_eq_zero (by simpa using hr.1)
  subst hn
  exact ⟨v, w, run_append_of_nil w base t ty e i size ht hi v n xs hown c, by simpa using hown, World.grownBy.refl w _, .inl rfl⟩
 ·
  have hcells : ∀ j u, news[j]? = some u → w.cell? (ad.add j) = some u := by
   intro j u hu
   rcases Nat.eq_zero_or_pos m with h0 | h0
   ·
    subst h0
    have hn : news = [] := List.eq_nil_of_length_eq_zero (by simpa using hr.1)
    subst hn
    simp at hu
   ·
    obtain ⟨b, off, h, _, hc⟩ := hr.2 h0
    injection h with h
    subst h
    have hadd : (⟨b, off, none⟩ : Addr).add j = ⟨b, off + j, none⟩ := by unfold Addr.add; split <;> simp_all
    rw [hadd]
    exact hc j u hu
  obtain ⟨v', w', hrun, h2, h3, _, h5⟩ := run_append_own_at (P := P) w base t ty e i z size bytes ht hi hz hsize hby hzs hsz v n xs hown ad m c news hr.1 hcells h1 h63 hbytes hbase
  exact ⟨v', w', hrun, h2, h3, h5⟩
end
theorem wpl_app_int {ops : Array Oper} {rest : List Oper} {o : Oper} {a : Act} {Q : Exit → Act → World → Prop} (R : World) {W : World} (hgd : o.guard = none) (s x : Operand) (ho : o.op = .call { callee := .builtin .append, args := #[s, x], argTypes := #[23, 23] })
  (A : Option Addr) (n c : Nat) (l : List Int) (hs : a.eval s = .slice A n c) {W₀ : World} (hown₀ : OwI R.heap.size W₀ A n c l) (hW₀ : Below W₀.heap.size W₀ W) (hR : Below R.heap.size R W)
  (B : Option Addr) (m d : Nat) (r : List Int) (hx : a.eval x = .slice B m d) {W₁ : World} (hr₁ : RdI W₁ B m r) (hW₁ : Below W₁.heap.size W₁ W) (hn : n + m ≤ 1099511627776)
  (h : ∀ A' c' y, OwI R.heap.size (ext R y) A' (n + m) c' (l ++ r) → W.grownBy (ext R y) (blkOf A) → (blkOf A' = blkOf A ∨ blkOf A' = some W.heap.size) → wpList Tryz.prog ops Q rest (a.put o.dst (.slice A' (n + m) c')) (ext R y)) :
  wpList Tryz.prog ops Q (o :: rest) a W := by
 have hown := hown₀.below hW₀
 have hr := hr₁.below hW₁
 obtain ⟨i0, hi0, hz0, hz1, hz2⟩ := info_parts int_info
 obtain ⟨v', w', hrun, h2, h3, h4⟩ := run_append_rd (P := Tryz.prog) W R.heap.size 23 o.type 3 i0 (.int .i64 0) 1 8 Tryz.underlying23 hi0 hz0 hz1 hz2 rfl (by omega) (.slice A n c) n (l.map (Value.int .i64)) hown B m d (r.map (Value.int .i64)) hr
  (by intro u hu; simp only [List.mem_map] at hu; obtain ⟨z, _, rfl⟩ := hu; rfl) (by simp only [maxLen]; omega) (by omega) hR.size
 refine wpList_plain hgd fun K hK => ?_
 unfold Oper.wp execOp
 simp only [ho, resolve, invoke, builtin, Sem.run_bind, Sem.run_pure, Result.andThen_ok, List.map_toArray, List.map_cons, List.map_nil, hs, hx, hrun]
 rw [ownBlock_slice] at h3 h4
 have hBw : Below R.heap.size R w' := below_grown hR h3 (fun k hk => (hown.blk hk).1)
 obtain ⟨y, rfl⟩ := ext_ex hBw
 have hm : l.map (Value.int .i64) ++ r.map (Value.int .i64) = (l ++ r).map (Value.int .i64) := by simp
 rw [hm] at h2
 rcases h2.2 with ⟨hv, h0⟩ | ⟨g', cap, cur, hv, hrest⟩
 ·
  subst hv
  rw [ownBlock_slice] at h4
  have e : Value.slice none 0 0 = .slice none (n + m) 0 := by rw [h0]
  rw [e] at h2 ⊢
  exact hK _ _ (h none 0 y h2 h3 h4)
 ·
  subst hv
  rw [ownBlock_slice] at h4
  exact hK _ _ (h _ _ y h2 h3 h4)
def allB (l : List Int) (lo hi : Int) : Bool := l.all fun x => inB x lo hi
theorem allB_of {l : List Int} {lo hi : Int} (h : allB l lo hi = true) : ∀ x ∈ l, lo ≤ x ∧ x ≤ hi := fun x hx => inB_iff.1 (List.all_eq_true.1 h x hx)
theorem ints_made (n : Nat) : (madeCells (Value.int .i64 0).cells (n * 1)).toList = (List.replicate n (0 : Int)).map (Value.int .i64) := by
 rw [Nat.mul_one]
 show (madeCells #[Value.int .i64 0] n).toList = _
 rw [toList_madeCells_one]; simp
set_option maxHeartbeats 400000 in
theorem toIntS_any (w : World) (A : Option Addr) (n c : Nat) (l : List Int) (ha : RdI w A n l) (hn : n ≤ 1099511627776) :
  Calls Tryz.prog 53 #[.slice A n c] w (RetI w l) := by
 obtain ⟨i0, hi0, hz0, hz1, hz2⟩ := info_parts int_info
 have Hl := Lib.hid ha.len
 go_enter Tryz.func53, Tryz.ntmps53
 go_wp2_with (at_make; refine wpList_make_full w rfl _ _ _ rfl w.heap.size 3 i0 _ 1 Tryz.underlying23 hi0 hz0 hz1 .i64 .i64 _ _ n rfl rfl rfl rfl (by rw [hz2]; omega) (by simp only [maxLen]; omega) (Nat.le_refl _) ?_; intro w1 hown1 hg1)
 have hb1 : Below w.heap.size w w1 := below_grown (Below.refl _ _) hg1 (by simp)
 rw [ints_made] at hown1
 have o1 : OwI w.heap.size w1 (some ⟨w.heap.size, 0, none⟩) n n (fillL l 0 n 0) := by rw [fillL_zero]; exact hown1
 clear hown1 hg1
 obtain ⟨x1, rfl⟩ := ext_ex hb1
 go_loopw [4] (fun i wr => ∃ (k : Nat) (x : World), k ≤ n ∧ i = .int .i64 k ∧ wr = ext w x ∧ OwI w.heap.size (ext w x) (some ⟨w.heap.size, 0, none⟩) n n (fillL l k n 0)) (fun i _ => n - (intOf i).toNat)
 case atStart => exact ⟨0, x1, by omega, rfl, rfl, o1⟩
 case round =>
  obtain ⟨k, x, hk, rfl, rfl, ho⟩ := hrel
  by_cases hlt : k < n
  ·
   obtain ⟨b, off, rfl, hb, hc⟩ := ha.open_ (by omega)
   have HF := Lib.hid (fillL_step l k n 0 Hl.out hlt)
   have hcc := ho.cell_ k hlt
   have hff := ho.frozen_ k
   go_wp2
   have hst := ho.stored_ k (l[k]?.getD 0)
   rw [HF.out] at hst
   have hbn : Below w.heap.size w ((ext w x).setCell ⟨w.heap.size, k, none⟩ (.int .i64 (l[k]?.getD 0))) := by repeat first | exact .refl _ _ | assumption | refine bExt ?_ _ | refine bAlloc ?_ _ | refine bDrewN ?_ _ | refine bDrew ?_ | refine bSet ?_ (by first | exact Nat.le_refl _ | omega | (simp <;> omega)) _
   obtain ⟨z, hz⟩ := ext_ex hbn
   go_roundw
   case rel => exact ⟨k + 1, z, by omega, by go_num, hz, by rw [← hz]; exact hst.1⟩
   case measure => simp [intOf]; omega
  ·
   have hkn := Lib.hid (show k = n by omega)
   go_wp2
   go_ret
   rw [hkn.out, fillL_end _ _ _ Hl.out] at ho
   exact RetI.mk_ ho (Nat.le_refl _) (ext_below _ _)
set_option maxHeartbeats 400000 in
theorem l1All_any (w : World) (A : Option Addr) (n c : Nat) (l : List Int) (lo hi : Int) (ha : RdI w A n l) (hn : n ≤ 1099511627776) :
  Calls Tryz.prog 99 #[.slice A n c, .int .i64 lo, .int .i64 hi] w fun e w' => e = .returned (.bool (allB l lo hi)) ∧ w = w' := by
 have Hl := Lib.hid ha.len
 unfold allB
 go_enter Tryz.func99, Tryz.ntmps99
 go_wp2
 go_loop [8, 11] (fun _ i => ∃ k : Nat, k ≤ n ∧ i = .int .i64 k ∧ Hid ((l.take k).all (fun x => inB x lo hi) = true)) (fun _ i => n - (intOf i).toNat)
 case atStart => exact ⟨0, by omega, rfl, rfl⟩
 case round =>
  obtain ⟨k, hk, rfl, HT⟩ := hrel
  by_cases hlt : k < n
  ·
   obtain ⟨b, off, rfl, hb, hc⟩ := ha.open_ (by omega)
   go_wp2_with (go_at_call 87; ((with_reducible refine (l1In_any _ _ _ _).mono ?_); rintro e w' ⟨rfl, rfl⟩))
   ·
    have hh : (!inB (l[k]?.getD 0) lo hi) = true := by assumption
    go_ret
    exact ⟨ret_bool (all_miss 0 (by rw [Hl.out]; exact hlt) (by simpa using hh)).symm, rfl⟩
   ·
    have hh : (!inB (l[k]?.getD 0) lo hi) = false := by assumption
    go_round
    case rel => exact ⟨k + 1, by omega, by go_num, all_step 0 (by rw [Hl.out]; exact hlt) HT.out (by simpa using hh)⟩
    case measure => simp [intOf]; omega
  ·
   go_wp2
   go_ret
   exact ⟨ret_bool (all_end HT.out (by rw [Hl.out]; omega)).symm, rfl⟩
set_option maxHeartbeats 400000 in
theorem allWithin_any (w : World) (A : Option Addr) (n c : Nat) (l : List Int) (lo hi : Int) (ha : RdI w A n l) (hn : n ≤ 1099511627776) :
  Calls Tryz.prog 106 #[.slice A n c, .int .i64 lo, .int .i64 hi] w fun e w' => e = .returned (.bool (allB l lo hi)) ∧ w = w' := by
 have Hl := Lib.hid ha.len
 unfold allB
 go_enter Tryz.func106, Tryz.ntmps106
 go_wp2
 go_loop [8, 11] (fun _ i => ∃ k : Nat, k ≤ n ∧ i = .int .i64 k ∧ Hid ((l.take k).all (fun x => inB x lo hi) = true)) (fun _ i => n - (intOf i).toNat)
 case atStart => exact ⟨0, by omega, rfl, rfl⟩
 case round =>
  obtain ⟨k, hk, rfl, HT⟩ := hrel
  by_cases hlt : k < n
  ·
   obtain ⟨b, off, rfl, hb, hc⟩ := ha.open_ (by omega)
   go_wp2_with (go_at_call 91; ((with_reducible refine (within_any _ _ _ _).mono ?_); rintro e w' ⟨rfl, rfl⟩))
   ·
    have hh : (!inB (l[k]?.getD 0) lo hi) = true := by assumption
    go_ret
    exact ⟨ret_bool (all_miss 0 (by rw [Hl.out]; exact hlt) (by simpa using hh)).symm, rfl⟩
   ·
    have hh : (!inB (l[k]?.getD 0) lo hi) = false := by assumption
    go_round
    case rel => exact ⟨k + 1, by omega, by go_num, all_step 0 (by rw [Hl.out]; exact hlt) HT.out (by simpa using hh)⟩
    case measure => simp [intOf]; omega
  ·
   go_wp2
   go_ret
   exact ⟨ret_bool (all_end HT.out (by rw [Hl.out]; omega)).symm, rfl⟩
theorem copyInts_any (w : World) (A : Option Addr) (n c : Nat) (l : List Int) (ha : RdI w A n l) (hn : n ≤ 1099511627776) :
  Calls Tryz.prog 243 #[.slice A n c] w (RetI w l) := by
 have o0 := OwI.lit_ (Below.refl w.heap.size w) [] (by simp [maxLen]) #[] rfl
 have hn0 : 0 + n ≤ 1099511627776 := by omega
 go_enter Tryz.func243, Tryz.ntmps243
 go_wp2_with (at_builtin; (refine wpl_app_int w rfl _ _ rfl (some ⟨w.heap.size, 0, none⟩) 0 0 [] rfl o0 ?_ ?_ A n c l rfl ha ?_ hn0 ?_); exact bl; exact bl; exact bl; intro A' c' y ho hg hd)
 go_ret
 exact RetI.mk_ (by simpa using ho) (Nat.le_refl _) (ext_below _ _)
end Go.Proofs.YtmeaklaagglmeaaGreatDoor
