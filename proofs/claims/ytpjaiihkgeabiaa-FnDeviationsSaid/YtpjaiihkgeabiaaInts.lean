/- Contracts of functions over slices of ints: copies, comparisons, tests of all elements. Conditions: lengths below 2^40. -/
import Derived.Test.YtpjaiihkgeabiaaL1
set_option linter.unusedVariables false
set_option linter.unusedSimpArgs false
set_option maxRecDepth 100000
namespace Go.Proofs.Ytpjaiihkgeabiaa
open Go.RowKit
section
variable {P : Program} (w : World)
theorem run_append_of_nil (base : Nat) (t ty e : TypeId) (i : TypeInfo) (size : Nat) (ht : P.underlying t = some (.slice e)) (hi : P.info? e = some i)
    (v : Value) (n : Nat) (xs : List Value) (hown : w.ownsRow base e size v n xs) (c : Nat) : (Builtin.append_ #[t, t] ty #[v, .slice none 0 c]).run P w = .ok v w := by
  rcases hown.2 with ⟨rfl, rfl⟩ | ⟨g, cap, cur, rfl, _, _, hnc, _⟩
  · simp [Builtin.append_, run_underlying ht, sizeOf, typeInfo, hi, Builtin.lenOf, Builtin.firstCells]
  · simp [Builtin.append_, run_underlying ht, sizeOf, typeInfo, hi, Builtin.lenOf, Builtin.firstCells, hnc, storeCells]
/-- append(v, source...), the source nil, empty or not. -/
theorem run_append_rd (base : Nat) (t ty e : TypeId) (i : TypeInfo) (z : Value) (size bytes : Nat) (ht : P.underlying t = some (.slice e)) (hi : P.info? e = some i) (hz : i.zero = some z)
    (hsize : i.size = size) (hby : i.bytes = bytes) (hzs : z.cells.size = size) (hsz : 0 < size)
    (v : Value) (n : Nat) (xs : List Value) (hown : w.ownsRow base e size v n xs)
    (A : Option Addr) (m c : Nat) (news : List Value) (hr : Rd size w A m news) (h1 : ∀ u ∈ news, u.oneCell' = true)
    (h63 : n + m ≤ maxLen) (hbytes : (n + m) * bytes ≤ 140737488355328) (hbase : base ≤ w.heap.size) :
    ∃ v' w', (Builtin.append_ #[t, t] ty #[v, .slice A m c]).run P w = .ok v' w' ∧ w'.ownsRow base e size v' (n + m) (xs ++ news) ∧ w.grownBy w' v.ownBlock ∧
      (v'.ownBlock = v.ownBlock ∨ v'.ownBlock = some w.heap.size) := by
  rcases A with _ | ad
  · have hm : m = 0 := by
      rcases Nat.eq_zero_or_pos m with h0 | h0
      · exact h0
      · obtain ⟨b, off, h, _⟩ := hr.2 h0
        cases h
    subst hm
    have hn : news = [] := List.eq_nil_of_length_eq_zero (by simpa using hr.1)
    subst hn
    exact ⟨v, w, run_append_of_nil w base t ty e i size ht hi v n xs hown c, by simpa using hown, World.grownBy.refl w _, .inl rfl⟩
  · have hcells : ∀ j u, news[j]? = some u → w.cell? (ad.add j) = some u := by
      intro j u hu
      rcases Nat.eq_zero_or_pos m with h0 | h0
      · subst h0
        have hn : news = [] := List.eq_nil_of_length_eq_zero (by simpa using hr.1)
        subst hn
        simp at hu
      · obtain ⟨b, off, h, _, hc⟩ := hr.2 h0
        injection h with h
        subst h
        have hadd : (⟨b, off, none⟩ : Addr).add j = ⟨b, off + j, none⟩ := by unfold Addr.add; split <;> simp_all
        rw [hadd]
        exact hc j u hu
    obtain ⟨v', w', hrun, h2, h3, _, h5⟩ := run_append_own_at (P := P) w base t ty e i z size bytes ht hi hz hsize hby hzs hsz v n xs hown ad m c news hr.1 hcells h1 h63 hbytes hbase
    exact ⟨v', w', hrun, h2, h3, h5⟩
end
/-- append(s, source...) onto a row of ints of the call's own. -/
theorem wpl_app_int {ops : Array Oper} {rest : List Oper} {o : Oper} {a : Act} {Q : Exit → Act → World → Prop} (R : World) {W : World} (hgd : o.guard = none) (s x : Operand) (ho : o.op = .call { callee := .builtin .append, args := #[s, x], argTypes := #[30, 30] })
    (A : Option Addr) (n c : Nat) (l : List Int) (hs : a.eval s = .slice A n c) {W₀ : World} (hown₀ : OwI R.heap.size W₀ A n c l) (hW₀ : Below W₀.heap.size W₀ W) (hR : Below R.heap.size R W)
    (B : Option Addr) (m d : Nat) (r : List Int) (hx : a.eval x = .slice B m d) {W₁ : World} (hr₁ : RdI W₁ B m r) (hW₁ : Below W₁.heap.size W₁ W) (hn : n + m ≤ 1099511627776)
    (h : ∀ A' c' y, OwI R.heap.size (ext R y) A' (n + m) c' (l ++ r) → W.grownBy (ext R y) (blkOf A) → (blkOf A' = blkOf A ∨ blkOf A' = some W.heap.size) → wpList Try.prog ops Q rest (a.put o.dst (.slice A' (n + m) c')) (ext R y)) :
    wpList Try.prog ops Q (o :: rest) a W := by
  have hown := hown₀.below hW₀
  have hr := hr₁.below hW₁
  obtain ⟨i0, hi0, hz0, hz1, hz2⟩ := info_parts int_info
  obtain ⟨v', w', hrun, h2, h3, h4⟩ := run_append_rd (P := Try.prog) W R.heap.size 30 o.type 3 i0 (.int .i64 0) 1 8 Try.underlying30 hi0 hz0 hz1 hz2 rfl (by omega) (.slice A n c) n (l.map (Value.int .i64)) hown B m d (r.map (Value.int .i64)) hr
    (by intro u hu; simp only [List.mem_map] at hu; obtain ⟨z, _, rfl⟩ := hu; rfl) (by simp only [maxLen]; omega) (by omega) hR.size
  refine wpList_plain hgd fun K hK => ?_
  unfold Oper.wp execOp
  simp only [ho, resolve, invoke, builtin, Sem.run_bind, Sem.run_pure, Result.andThen_ok, List.map_toArray, List.map_cons, List.map_nil, hs, hx, hrun]
  rw [ownBlock_slice] at h3 h4
  have hBw : Below R.heap.size R w' := below_grown hR h3 (fun k hk => (hown.blk hk).1)
  obtain ⟨y, rfl⟩ := ext_ex hBw
  have hm : l.map (Value.int .i64) ++ r.map (Value.int .i64) = (l ++ r).map (Value.int .i64) := by simp
  rw [hm] at h2
  rcases h2.2 with ⟨hv, h0⟩ | ⟨g', cap, cur, hv, hrest⟩
  · subst hv
    rw [ownBlock_slice] at h4
    have e : Value.slice none 0 0 = .slice none (n + m) 0 := by rw [h0]
    rw [e] at h2 ⊢
    exact hK _ _ (h none 0 y h2 h3 h4)
  · subst hv
    rw [ownBlock_slice] at h4
    exact hK _ _ (h _ _ y h2 h3 h4)
def allB (l : List Int) (lo hi : Int) : Bool := l.all fun x => inB x lo hi
theorem allB_of {l : List Int} {lo hi : Int} (h : allB l lo hi = true) : ∀ x ∈ l, lo ≤ x ∧ x ≤ hi := fun x hx => inB_iff.1 (List.all_eq_true.1 h x hx)
theorem allB_get {l : List Int} {lo hi : Int} (h : allB l lo hi = true) (k : Nat) (hk : k < l.length) : lo ≤ l[k]?.getD 0 ∧ l[k]?.getD 0 ≤ hi := allB_of h _ (getD_mem 0 l k hk)
def sameB (l r : List Int) : Bool := l == r
theorem sameB_iff {l r : List Int} : sameB l r = true ↔ l = r := by simp [sameB]
set_option maxHeartbeats 400000 in
theorem l1All_any (w : World) (A : Option Addr) (n c : Nat) (l : List Int) (lo hi : Int) (ha : RdI w A n l) (hn : n ≤ 1099511627776) :
    Calls Try.prog 64 #[.slice A n c, .int .i64 lo, .int .i64 hi] w fun e w' => e = .returned (.bool (allB l lo hi)) ∧ w = w' := by
  have Hl := Lib.hid ha.len
  unfold allB
  go_enter Try.func64, Try.ntmps64
  go_wp2
  go_loop [8, 11] (fun _ i => ∃ k : Nat, k ≤ n ∧ i = .int .i64 k ∧ Hid ((l.take k).all (fun x => inB x lo hi) = true)) (fun _ i => n - (intOf i).toNat)
  case atStart => exact ⟨0, by omega, rfl, rfl⟩
  case round =>
    obtain ⟨k, hk, rfl, HT⟩ := hrel
    by_cases hlt : k < n
    · obtain ⟨b, off, rfl, hb, hc⟩ := ha.open_ (by omega)
      go_wp2_with (go_at_call 45; ((with_reducible refine (l1In_any _ _ _ _).mono ?_); rintro e w' ⟨rfl, rfl⟩))
      · have hh : (!inB (l[k]?.getD 0) lo hi) = true := by assumption
        go_ret
        exact ⟨ret_bool (all_miss 0 (by rw [Hl.out]; exact hlt) (by simpa using hh)).symm, rfl⟩
      · have hh : (!inB (l[k]?.getD 0) lo hi) = false := by assumption
        go_round
        case rel => exact ⟨k + 1, by omega, by go_num, all_step 0 (by rw [Hl.out]; exact hlt) HT.out (by simpa using hh)⟩
        case measure => simp [intOf]; omega
    · go_wp2
      go_ret
      exact ⟨ret_bool (all_end HT.out (by rw [Hl.out]; omega)).symm, rfl⟩
set_option maxHeartbeats 400000 in
theorem allWithin_any (w : World) (A : Option Addr) (n c : Nat) (l : List Int) (lo hi : Int) (ha : RdI w A n l) (hn : n ≤ 1099511627776) :
    Calls Try.prog 53 #[.slice A n c, .int .i64 lo, .int .i64 hi] w fun e w' => e = .returned (.bool (allB l lo hi)) ∧ w = w' := by
  have Hl := Lib.hid ha.len
  unfold allB
  go_enter Try.func53, Try.ntmps53
  go_wp2
  go_loop [8, 11] (fun _ i => ∃ k : Nat, k ≤ n ∧ i = .int .i64 k ∧ Hid ((l.take k).all (fun x => inB x lo hi) = true)) (fun _ i => n - (intOf i).toNat)
  case atStart => exact ⟨0, by omega, rfl, rfl⟩
  case round =>
    obtain ⟨k, hk, rfl, HT⟩ := hrel
    by_cases hlt : k < n
    · obtain ⟨b, off, rfl, hb, hc⟩ := ha.open_ (by omega)
      go_wp2_with (go_at_call 42; ((with_reducible refine (within_any _ _ _ _).mono ?_); rintro e w' ⟨rfl, rfl⟩))
      · have hh : (!inB (l[k]?.getD 0) lo hi) = true := by assumption
        go_ret
        exact ⟨ret_bool (all_miss 0 (by rw [Hl.out]; exact hlt) (by simpa using hh)).symm, rfl⟩
      · have hh : (!inB (l[k]?.getD 0) lo hi) = false := by assumption
        go_round
        case rel => exact ⟨k + 1, by omega, by go_num, all_step 0 (by rw [Hl.out]; exact hlt) HT.out (by simpa using hh)⟩
        case measure => simp [intOf]; omega
    · go_wp2
      go_ret
      exact ⟨ret_bool (all_end HT.out (by rw [Hl.out]; omega)).symm, rfl⟩
set_option maxHeartbeats 400000 in
theorem qInts_any (w : World) (A B : Option Addr) (n m c d : Nat) (l r : List Int) (ha : RdI w A n l) (hb : RdI w B m r) (hn : n ≤ 1099511627776) :
    Calls Try.prog 19 #[.slice A n c, .slice B m d] w fun e w' => e = .returned (.bool (sameB l r)) ∧ ∃ x, w' = ext w x := by
  have Hl := Lib.hid ha.len
  have Hr := Lib.hid hb.len
  unfold sameB
  by_cases hnm : n = m
  · subst hnm
    go_enter Try.func19, Try.ntmps19
    go_wp2
    go_loopw [5, 13] (fun _ i wr => ∃ k x, k ≤ n ∧ i = .int .i64 (k : Nat) ∧ wr = ext w x ∧ Hid (l.take k = r.take k)) (fun _ i _ => n - (intOf i).toNat)
    case atStart => exact ⟨0, _, Nat.zero_le _, rfl, (ext_self w), rfl⟩
    case round =>
      obtain ⟨k, x, hk, rfl, rfl, HT⟩ := hrel
      by_cases hlt : k < n
      · obtain ⟨b1, o1, rfl, hb1, hc1⟩ := ha.open_ (by omega)
        obtain ⟨b2, o2, rfl, hb2, hc2⟩ := hb.open_ (by omega)
        go_wp2
        go_quiet (fail)
        go_wp2
        · go_ret
          exact ⟨ret_bool (eq_take_ne Hl.out Hr.out hlt ‹_›).symm, ext_ex (by repeat (first | exact Below.refl _ _ | assumption | refine bExt ?_ _ | refine bAlloc ?_ _ | refine bDrewN ?_ _ | refine bDrew ?_ | refine bSet ?_ (by first | exact Nat.le_refl _ | omega | (simp; done) | (simp; omega)) _))⟩
        · go_roundw
          case rel => exact ⟨k + 1, _, by omega, by go_num, (ext_ex (by repeat (first | exact Below.refl _ _ | assumption | refine bExt ?_ _ | refine bAlloc ?_ _ | refine bDrewN ?_ _ | refine bDrew ?_ | refine bSet ?_ (by first | exact Nat.le_refl _ | omega | (simp; done) | (simp; omega)) _))).choose_spec, eq_take_step Hl.out Hr.out hlt HT.out ‹_›⟩
          case measure => simp [intOf]; omega
      · go_wp2
        go_ret
        exact ⟨ret_bool (eq_take_end Hl.out Hr.out (by omega) HT.out).symm, _, rfl⟩
  · go_enter Try.func19, Try.ntmps19
    go_wp2
    go_ret
    exact ⟨ret_bool (eq_len_ne (by rw [Hl.out, Hr.out]; exact hnm)).symm, ext_ex (by repeat (first | exact Below.refl _ _ | assumption | refine bExt ?_ _ | refine bAlloc ?_ _ | refine bDrewN ?_ _ | refine bDrew ?_ | refine bSet ?_ (by first | exact Nat.le_refl _ | omega | (simp; done) | (simp; omega)) _))⟩
theorem l1Own_any (w : World) (A : Option Addr) (n c : Nat) (l : List Int) (ha : RdI w A n l) (hn : n ≤ 1099511627776) :
    Calls Try.prog 58 #[.slice A n c] w (RetI w l) := by
  have o0 := OwI.lit_ (Below.refl w.heap.size w) [] (by simp [maxLen]) #[] rfl
  have hn0 : 0 + n ≤ 1099511627776 := by omega
  go_enter Try.func58, Try.ntmps58
  go_wp2_with (at_builtin; (refine wpl_app_int w rfl _ _ rfl (some ⟨w.heap.size, 0, none⟩) 0 0 [] rfl o0 ?_ ?_ A n c l rfl ha ?_ hn0 ?_); (focus (repeat (first | exact Below.refl _ _ | assumption | refine bExt ?_ _ | refine bAlloc ?_ _ | refine bDrewN ?_ _ | refine bDrew ?_ | refine bSet ?_ (by first | exact Nat.le_refl _ | omega | (simp; done) | (simp; omega)) _))); (focus (repeat (first | exact Below.refl _ _ | assumption | refine bExt ?_ _ | refine bAlloc ?_ _ | refine bDrewN ?_ _ | refine bDrew ?_ | refine bSet ?_ (by first | exact Nat.le_refl _ | omega | (simp; done) | (simp; omega)) _))); (focus (repeat (first | exact Below.refl _ _ | assumption | refine bExt ?_ _ | refine bAlloc ?_ _ | refine bDrewN ?_ _ | refine bDrew ?_ | refine bSet ?_ (by first | exact Nat.le_refl _ | omega | (simp; done) | (simp; omega)) _))); intro A' c' y ho hg hd)
  go_ret
  exact RetI.mk_ (by simpa using ho) (Nat.le_refl _) (ext_below _ _)
theorem copyInts_any (w : World) (A : Option Addr) (n c : Nat) (l : List Int) (ha : RdI w A n l) (hn : n ≤ 1099511627776) :
    Calls Try.prog 59 #[.slice A n c] w (RetI w l) := by
  have o0 := OwI.lit_ (Below.refl w.heap.size w) [] (by simp [maxLen]) #[] rfl
  have hn0 : 0 + n ≤ 1099511627776 := by omega
  go_enter Try.func59, Try.ntmps59
  go_wp2_with (at_builtin; (refine wpl_app_int w rfl _ _ rfl (some ⟨w.heap.size, 0, none⟩) 0 0 [] rfl o0 ?_ ?_ A n c l rfl ha ?_ hn0 ?_); (focus (repeat (first | exact Below.refl _ _ | assumption | refine bExt ?_ _ | refine bAlloc ?_ _ | refine bDrewN ?_ _ | refine bDrew ?_ | refine bSet ?_ (by first | exact Nat.le_refl _ | omega | (simp; done) | (simp; omega)) _))); (focus (repeat (first | exact Below.refl _ _ | assumption | refine bExt ?_ _ | refine bAlloc ?_ _ | refine bDrewN ?_ _ | refine bDrew ?_ | refine bSet ?_ (by first | exact Nat.le_refl _ | omega | (simp; done) | (simp; omega)) _))); (focus (repeat (first | exact Below.refl _ _ | assumption | refine bExt ?_ _ | refine bAlloc ?_ _ | refine bDrewN ?_ _ | refine bDrew ?_ | refine bSet ?_ (by first | exact Nat.le_refl _ | omega | (simp; done) | (simp; omega)) _))); intro A' c' y ho hg hd)
  go_ret
  exact RetI.mk_ (by simpa using ho) (Nat.le_refl _) (ext_below _ _)
end Go.Proofs.Ytpjaiihkgeabiaa
