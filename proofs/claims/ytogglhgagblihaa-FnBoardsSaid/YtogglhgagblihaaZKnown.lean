/- Which scores are known at a time, in the program and in the reference; rows of bools. Conditions: slices below 2^40 elements. -/
import Derived.Test.YtogglhgagblihaaZScreen
import Derived.Test.YtogglhgagblihaaZSorts
set_option linter.unusedVariables false
set_option linter.unusedSimpArgs false
set_option maxRecDepth 100000
namespace Go.Proofs.Ytogglhgagblihaa
open Go.RowKit
theorem bool_info : (Try.prog.info? 4).map (fun i => (i.zero, i.size, i.bytes)) = some (some (.bool false), 1, 1) := by kernel_rfl
def RdB (w : World) (A : Option Addr) (n : Nat) (l : List Bool) : Prop := Rd 1 w A n (l.map Value.bool)
def OwB (base : Nat) (w : World) (A : Option Addr) (n c : Nat) (l : List Bool) : Prop := Ow 4 1 base w A n c (l.map Value.bool)
section
variable {base n c : Nat} {w w' : World} {A : Option Addr} {l : List Bool}
theorem RdB.below (h : RdB w A n l) (hb : Below w.heap.size w w') : RdB w' A n l := Rd.below h hb
theorem RdB.len (h : RdB w A n l) : l.length = n := by have := h.1; simpa using this
theorem RdB.open_ (h : RdB w A n l) (hn : 0 < n) : ∃ b off, A = some ⟨b, off, none⟩ ∧ b < w.heap.size ∧ ∀ j, j < n → w.cell? ⟨b, off + j, none⟩ = some (.bool (l[j]?.getD false)) := by
  have hl := h.len
  obtain ⟨b, off, e, hlt, hc⟩ := h.2 hn
  refine ⟨b, off, e, hlt, fun j hj => hc j _ ?_⟩
  simp [show j < l.length by omega]
theorem OwB.below (h : OwB base w A n c l) (hb : Below w.heap.size w w') : OwB base w' A n c l := Ow.below h hb
theorem OwB.rd (h : OwB base w A n c l) : RdB w A n l := Ow.rd h
theorem OwB.len (h : OwB base w A n c l) : l.length = n := by have := Ow.len h; simpa using this
theorem OwB.nil_ : OwB base w none 0 0 [] := Ow.nil_
theorem OwB.blk (h : OwB base w A n c l) {g : Nat} (hA : blkOf A = some g) : base ≤ g ∧ g < w.heap.size := Ow.blk h hA
theorem OwB.mono {base' : Nat} (h : OwB base w A n c l) (hb : base' ≤ base) : OwB base' w A n c l := Ow.mono h hb
theorem RdB.one_ {b : Nat} {x : Bool} (hb : b < w.heap.size) (h : w.cell? ⟨b, 0, none⟩ = some (.bool x)) : RdB w (some ⟨b, 0, none⟩) 1 [x] :=
  ⟨by simp, fun _ => ⟨b, 0, rfl, hb, fun j u hu => by
    match j with
    | 0 => simp at hu; subst hu; exact h
    | j + 1 => simp at hu⟩⟩
end
/-- append of bools as a step of a region that draws its order. -/
theorem step_app_bool {ops : Array Oper} {o : Oper} {a : Act} {K : Act → World → Prop} {Q : Exit → Act → World → Prop} {E : Prop} (R : World) {W : World} (hgd : o.guard = none) (s x : Operand) (ho : o.op = .call { callee := .builtin .append, args := #[s, x], argTypes := #[91, 91] })
    (A : Option Addr) (n c : Nat) (l : List Bool) (hs : a.eval s = .slice A n c) {W₀ : World} (hown₀ : OwB R.heap.size W₀ A n c l) (hW₀ : Below W₀.heap.size W₀ W) (hR : Below R.heap.size R W)
    (B : Option Addr) (m d : Nat) (r : List Bool) (hx : a.eval x = .slice B m d) {W₁ : World} (hr₁ : RdB W₁ B m r) (hW₁ : Below W₁.heap.size W₁ W) (hn : n + m ≤ 1099511627776)
    (h : ∀ A' c' y, OwB R.heap.size (ext R y) A' (n + m) c' (l ++ r) → W.grownBy (ext R y) (blkOf A) → (blkOf A' = blkOf A ∨ blkOf A' = some W.heap.size) → K (a.put o.dst (.slice A' (n + m) c')) (ext R y)) :
    if Region.wanted o (yielded ops a.tmps) = true then Oper.wp Try.prog o a W K Q else E := by
  have hw : Region.wanted o (yielded ops a.tmps) = true := by simp [Region.wanted, hgd]
  rw [if_pos hw]
  have hown := hown₀.below hW₀
  have hr := hr₁.below hW₁
  obtain ⟨i0, hi0, hz0, hz1, hz2⟩ := info_parts bool_info
  obtain ⟨v', w', hrun, h2, h3, h4⟩ := run_append_rd (P := Try.prog) W R.heap.size 91 o.type 4 i0 (.bool false) 1 1 Try.underlying91 hi0 hz0 hz1 hz2 rfl (by omega) (.slice A n c) n (l.map Value.bool) hown B m d (r.map Value.bool) hr
    (by intro u hu; simp only [List.mem_map] at hu; obtain ⟨z, _, rfl⟩ := hu; rfl) (by simp only [maxLen]; omega) (by omega) hR.size
  unfold Oper.wp execOp
  simp only [ho, resolve, invoke, builtin, Sem.run_bind, Sem.run_pure, Result.andThen_ok, List.map_toArray, List.map_cons, List.map_nil, hs, hx, hrun]
  rw [ownBlock_slice] at h3 h4
  have hBw : Below R.heap.size R w' := below_grown hR h3 (fun k hk => (hown.blk hk).1)
  obtain ⟨y, rfl⟩ := ext_ex hBw
  have hm : l.map Value.bool ++ r.map Value.bool = (l ++ r).map Value.bool := by simp
  rw [hm] at h2
  rcases h2.2 with ⟨hv, h0⟩ | ⟨g', cap, cur, hv, hrest⟩
  · subst hv
    rw [ownBlock_slice] at h4
    have e : Value.slice none 0 0 = .slice none (n + m) 0 := by rw [h0]
    rw [e] at h2 ⊢
    exact h none 0 y h2 h3 h4
  · subst hv
    rw [ownBlock_slice] at h4
    exact h _ _ y h2 h3 h4
/-- Whether the score of slot j is known at t. -/
def knAt (l : List (Int × Int)) (S : List Int) (gap t : Int) (j : Nat) : Bool := decide (S[j]?.getD 0 + (l[j]?.getD (0, 0)).2 + gap ≤ t)
def knL (l : List (Int × Int)) (S : List Int) (gap t : Int) (k : Nat) : List Bool := (List.range k).map (knAt l S gap t)
theorem knL_succ (l : List (Int × Int)) (S : List Int) (gap t : Int) (k : Nat) : knL l S gap t (k + 1) = knL l S gap t k ++ [knAt l S gap t k] := by simp [knL, List.range_succ]
theorem knL_get (l : List (Int × Int)) (S : List Int) (gap t : Int) (n k : Nat) (h : k < n) : (knL l S gap t n)[k]?.getD false = knAt l S gap t k := by simp [knL, h]
def pickI (p : Nat → Bool) (n : Nat) : List Int := ((List.range n).filter p).map Int.ofNat
theorem pickI_yes {p : Nat → Bool} {k : Nat} (h : p k = true) : pickI p (k + 1) = pickI p k ++ [(k : Int)] := by simp [pickI, List.range_succ, h]
theorem pickI_no {p : Nat → Bool} {k : Nat} (h : p k = false) : pickI p (k + 1) = pickI p k := by simp [pickI, List.range_succ, h]
theorem pickI_len (p : Nat → Bool) (n : Nat) : (pickI p n).length ≤ n := by
  unfold pickI; rw [List.length_map]; exact Nat.le_trans (List.length_filter_le _ _) (by simp)
theorem pickI_has {p : Nat → Bool} {n k : Nat} (h : k < n) : hasB (pickI p n) k = p k := by
  rw [Bool.eq_iff_iff, hasB_iff]
  simp only [pickI, List.mem_map, List.mem_filter, List.mem_range]
  constructor
  · rintro ⟨j, ⟨_, h2⟩, e⟩
    have : j = k := by simp at e; omega
    subst this; exact h2
  · intro h2; exact ⟨k, ⟨h, h2⟩, rfl⟩
def RetB (w : World) (l : List Bool) (e : Ending) (w' : World) : Prop := ∃ A n c x, e = .returned (.slice A n c) ∧ w' = ext w x ∧ OwB w.heap.size (ext w x) A n c l
/-- What valid slots and a day give. -/
theorem timed_facts {l : List (Int × Int)} {a b c gap : Int} {n : Nat} (hl : l.length = n) (ht : timedB l a b c gap = true) : slotsB l = true ∧ dayB a b c gap = true ∧ n ≤ 40 ∧ (runS l a b c gap 0 0).length = n ∧ (∀ x ∈ runS l a b c gap 0 0, 0 ≤ x ∧ x ≤ 1000000) ∧ (0 ≤ gap ∧ gap ≤ 300) := by
  obtain ⟨h1, h2⟩ := timedB_of ht
  have hb1 : 1 ≤ b := by simp only [dayB, Bool.and_eq_true] at h2; exact (inB_iff.1 h2.1.1.2).1
  have hSl := runS_len (a := a) (c := c) (gap := gap) (i := 0) (delay := 0) h1 hb1
  have hn40 := (slotsB_of h1).2.2
  have hg := h2
  simp only [dayB, Bool.and_eq_true] at hg
  exact ⟨h1, h2, by omega, by omega, runS_bd (i := 0) ht (Int.le_refl 0) (by omega), inB_iff.1 hg.2⟩
set_option maxHeartbeats 2000000 in
theorem srKnown_any (w : World) (L : Option Addr) (n cl : Nat) (l : List (Int × Int)) (a b c gap t : Int) (hl : RdS w L n l) (hn : n ≤ 1099511627776) (ht : timedB l a b c gap = true) :
    Calls Try.prog 91 #[.slice L n cl, .agg #[.int .i64 a, .int .i64 b, .int .i64 c, .int .i64 gap], .int .i64 t] w (RetB w (knL l (runS l a b c gap 0 0) gap t n)) := by
  have Hl := Lib.hid hl.len
  obtain ⟨h1, h2, hn40, hSl, hbd, hg0, hg1⟩ := timed_facts hl.len ht
  have HZ := Lib.hid (runS_zero l a b c gap (-1) 0)
  go_enter Try.func91, Try.ntmps91
  go_wp2_with (first | (go_at_call 64; ((with_reducible refine (tiRun_any _ _ _ _ _ _ _ _ _ _ _ (hl.below (by repeat (first | exact Below.refl _ _ | assumption | refine bExt ?_ _ | refine bAlloc ?_ _ | refine bDrewN ?_ _ | refine bDrew ?_ | refine bSet ?_ (by first | exact Nat.le_refl _ | omega | (simp; done) | (simp; omega)) _))) h1 h2 (by omega) (by omega)).mono ?_); rintro e w' ⟨A, n1, c1, B, m1, d1, x, rfl, rfl, oA, oB⟩)))
  rw [HZ.out] at oA
  obtain rfl : n1 = n := oA.len.symm.trans hSl
  have hrA := oA.rd
  clear oB oA
  obtain ⟨SV, hSv⟩ : ∃ SV, runS l a b c gap 0 0 = SV := ⟨_, rfl⟩
  rw [hSv] at hrA hSl hbd
  have HSv := Lib.hid hSv
  clear hSv
  go_loopw [10, 22] (fun v i wr => ∃ (k : Nat) (D : Option Addr) (q : Nat) (y : World), k ≤ n1 ∧ i = .int .i64 k ∧ v = .slice D k q ∧ wr = ext (ext (w.alloc (.cells #[.int .i64 a, .int .i64 b, .int .i64 c, .int .i64 gap] 25)) x) y ∧ OwB (ext (w.alloc (.cells #[.int .i64 a, .int .i64 b, .int .i64 c, .int .i64 gap] 25)) x).heap.size (ext (ext (w.alloc (.cells #[.int .i64 a, .int .i64 b, .int .i64 c, .int .i64 gap] 25)) x) y) D k q (knL l SV gap t k)) (fun _ i _ => n1 - (intOf i).toNat)
  case atStart => exact ⟨0, none, 0, _, by omega, rfl, rfl, ext_self _, OwB.nil_⟩
  case round =>
    obtain ⟨k, D, q, y, hk, rfl, rfl, rfl, ho⟩ := hrel
    by_cases hlt : k < n1
    · obtain ⟨b1, o1, rfl, hb1, hc1⟩ := hrA.open_ (by omega)
      obtain ⟨b2, o2, rfl, hb2, hm0, hm1⟩ := hl.at_ k hlt
      have hmu := slotsB_music h1 k (by rw [Hl.out]; exact hlt)
      have hsb := getD_mem_bd (k := k) (by rw [hSl]; exact hlt) hbd
      have hce := hc1 k hlt
      clear hc1
      rw [List.getD_eq_getElem?_getD] at hce
      have HS := Lib.hid (knL_succ l SV gap t k)
      have HK := Lib.hid (show knAt l SV gap t k = decide (SV[k]?.getD 0 + (l[k]?.getD (0, 0)).2 + gap ≤ t) from rfl)
      generalize (l[k]?.getD (0, 0)).2 = mu at *
      generalize SV[k]?.getD 0 = s at *
      have hw1 : IntKind.i64.wrap (s + mu) = s + mu := IntWalk.i64_in _ (by omega)
      have hw2 : IntKind.i64.wrap (s + mu + gap) = s + mu + gap := IntWalk.i64_in _ (by omega)
      have hkI : (k : Int) < n1 := by omega
      have hb21 : b2 < w.heap.size + 1 := by omega
      go_wp2
      go_region_law (first
        | (refine step_app_bool (ext (w.alloc (.cells #[.int .i64 a, .int .i64 b, .int .i64 c, .int .i64 gap] 25)) x) rfl _ _ rfl D _ q (knL l SV gap t k) rfl ho ?_ ?_ _ 1 1 [decide (s + mu + gap ≤ t)] rfl (RdB.one_ ?_ ?_) (Below.refl _ _) (by omega) ?_; (focus (repeat (first | exact Below.refl _ _ | assumption | refine bExt ?_ _ | refine bAlloc ?_ _ | refine bDrewN ?_ _ | refine bDrew ?_ | refine bSet ?_ (by first | exact Nat.le_refl _ | omega | (simp; done) | (simp; omega)) _))); (focus (repeat (first | exact Below.refl _ _ | assumption | refine bExt ?_ _ | refine bAlloc ?_ _ | refine bDrewN ?_ _ | refine bDrew ?_ | refine bSet ?_ (by first | exact Nat.le_refl _ | omega | (simp; done) | (simp; omega)) _))); (focus (simp [go_sem])); (focus (simp [go_sem])); intro A2 c2 y2 o2' hg2 hd2))
      all_goals
        go_wp2
        go_roundw
        case rel => exact ⟨k + 1, A2, c2, y2, by omega, by go_num, rfl, rfl, by rw [HS.out, HK.out]; exact o2'⟩
        case measure => simp [intOf]; omega
    · have hkn := Lib.hid (show k = n1 by omega)
      go_wp2
      go_ret
      obtain ⟨z, hz⟩ := ext_ex (show Below w.heap.size w (ext (ext (w.alloc (.cells #[.int .i64 a, .int .i64 b, .int .i64 c, .int .i64 gap] 25)) x) y) from by repeat (first | exact Below.refl _ _ | assumption | refine bExt ?_ _ | refine bAlloc ?_ _ | refine bDrewN ?_ _ | refine bDrew ?_ | refine bSet ?_ (by first | exact Nat.le_refl _ | omega | (simp; done) | (simp; omega)) _))
      have ho2 := ho.mono (base_le (show Below w.heap.size w (ext (w.alloc (.cells #[.int .i64 a, .int .i64 b, .int .i64 c, .int .i64 gap] 25)) x) from by repeat (first | exact Below.refl _ _ | assumption | refine bExt ?_ _ | refine bAlloc ?_ _ | refine bDrewN ?_ _ | refine bDrew ?_ | refine bSet ?_ (by first | exact Nat.le_refl _ | omega | (simp; done) | (simp; omega)) _)))
      rw [hz] at ho2
      have he : knL l SV gap t k = knL l (runS l a b c gap 0 0) gap t n1 := by rw [hkn.out, HSv.out]
      rw [he] at ho2
      exact ⟨D, k, q, z, rfl, hz, ho2⟩
set_option maxHeartbeats 1000000 in
theorem knownF_any (w : World) (g1 g2 g3 g4 : Nat) (A : Option Addr) (n c : Nat) (S : List Int) (L : Option Addr) (cl : Nat) (l : List (Int × Int)) (gap t : Int) (k : Nat) (hr : RdI w A n S) (hl : RdS w L n l) (hk : k < n) (hn : n ≤ 40)
    (hs0 : 0 ≤ S[k]?.getD 0 ∧ S[k]?.getD 0 ≤ 1000000) (hmu : 30 ≤ (l[k]?.getD (0, 0)).2 ∧ (l[k]?.getD (0, 0)).2 ≤ 300) (hg0 : 0 ≤ gap ∧ gap ≤ 300)
    (hc1 : w.cell? ⟨g1, 0, none⟩ = some (.slice A n c)) (hc2 : w.cell? ⟨g2, 0, none⟩ = some (.slice L n cl)) (hc3 : w.cell? ⟨g3, 3, none⟩ = some (.int .i64 gap)) (hc4 : w.cell? ⟨g4, 0, none⟩ = some (.int .i64 t)) :
    Calls Try.prog 126 #[.int .i64 k, .pointer (some ⟨g1, 0, none⟩), .pointer (some ⟨g2, 0, none⟩), .pointer (some ⟨g3, 0, none⟩), .pointer (some ⟨g4, 0, none⟩)] w fun e w' => e = .returned (.bool (knAt l S gap t k)) ∧ ∃ x, w' = ext w x := by
  obtain ⟨b1, o1, rfl, hb1, hd1⟩ := hr.open_ (by omega)
  obtain ⟨b2, o2, rfl, hb2, hm0, hm1⟩ := hl.at_ k hk
  have hce := hd1 k hk
  rw [List.getD_eq_getElem?_getD] at hce
  clear hd1
  unfold knAt
  generalize (l[k]?.getD (0, 0)).2 = mu at *
  generalize S[k]?.getD 0 = s at *
  have hkI : (k : Int) < n := by omega
  go_enter Try.func126, Try.ntmps126
  go_wp2
  go_quiet (fail)
  go_wp2
  go_ret
  exact ⟨rfl, ext_ex (by repeat (first | exact Below.refl _ _ | assumption | refine bExt ?_ _ | refine bAlloc ?_ _ | refine bDrewN ?_ _ | refine bDrew ?_ | refine bSet ?_ (by first | exact Nat.le_refl _ | omega | (simp; done) | (simp; omega)) _))⟩
set_option maxHeartbeats 1000000 in
theorem indicesKn_any (w : World) (g1 g2 g3 g4 : Nat) (A : Option Addr) (n c : Nat) (S : List Int) (L : Option Addr) (cl : Nat) (l : List (Int × Int)) (gap t : Int) (hr : RdI w A n S) (hl : RdS w L n l) (hn : n ≤ 40)
    (hs0 : ∀ k, k < n → 0 ≤ S[k]?.getD 0 ∧ S[k]?.getD 0 ≤ 1000000) (hmu : ∀ k, k < n → 30 ≤ (l[k]?.getD (0, 0)).2 ∧ (l[k]?.getD (0, 0)).2 ≤ 300) (hg0 : 0 ≤ gap ∧ gap ≤ 300)
    (hc1 : w.cell? ⟨g1, 0, none⟩ = some (.slice A n c)) (hc2 : w.cell? ⟨g2, 0, none⟩ = some (.slice L n cl)) (hc3 : w.cell? ⟨g3, 3, none⟩ = some (.int .i64 gap)) (hc4 : w.cell? ⟨g4, 0, none⟩ = some (.int .i64 t))
    (hz1 : g1 < w.heap.size) (hz2 : g2 < w.heap.size) (hz3 : g3 < w.heap.size) (hz4 : g4 < w.heap.size) :
    Calls Try.prog 112 #[.int .i64 n, .func (.func 126) #[] #[.pointer (some ⟨g1, 0, none⟩), .pointer (some ⟨g2, 0, none⟩), .pointer (some ⟨g3, 0, none⟩), .pointer (some ⟨g4, 0, none⟩)]] w (RetI w (pickI (knAt l S gap t) n)) := by
  have cF := fun (x : World) (k : Nat) (hk : k < n) => knownF_any (ext w x) g1 g2 g3 g4 A n c S L cl l gap t k (hr.below (ext_below _ _)) (hl.below (ext_below _ _)) hk hn (hs0 k hk) (hmu k hk) hg0 (by rw [ext_cell _ _ _ _ _ hz1]; exact hc1) (by rw [ext_cell _ _ _ _ _ hz2]; exact hc2) (by rw [ext_cell _ _ _ _ _ hz3]; exact hc3) (by rw [ext_cell _ _ _ _ _ hz4]; exact hc4)
  clear hc1 hc2 hc3 hc4 hs0 hmu
  go_enter Try.func112, Try.ntmps112
  go_wp2
  go_loopw [5, 9] (fun v i wr => ∃ (k : Nat) (D : Option Addr) (z q : Nat) (x : World), k ≤ n ∧ z ≤ k ∧ i = .int .i64 k ∧ v = .slice D z q ∧ wr = ext w x ∧ OwI w.heap.size (ext w x) D z q (pickI (knAt l S gap t) k)) (fun _ i _ => n - (intOf i).toNat)
  case atStart =>
    have o0 := OwI.lit_ (R := w) (w := w) (Below.refl _ _) [] (by simp [maxLen]) #[] rfl
    obtain ⟨z, hz⟩ := ext_ex (show Below w.heap.size w (w.alloc (.cells #[] 3)) from by repeat (first | exact Below.refl _ _ | assumption | refine bExt ?_ _ | refine bAlloc ?_ _ | refine bDrewN ?_ _ | refine bDrew ?_ | refine bSet ?_ (by first | exact Nat.le_refl _ | omega | (simp; done) | (simp; omega)) _))
    rw [hz] at o0
    exact ⟨0, _, 0, _, z, by omega, by omega, rfl, rfl, hz, o0⟩
  case round =>
    obtain ⟨k, D, z, q, x, hkn, hzk, rfl, rfl, rfl, ho⟩ := hrel
    by_cases hlt : k < n
    · have c1 := cF x k hlt
      have hzb : z ≤ 1099511627776 := by omega
      cases hp : knAt l S gap t k
      · have HN := Lib.hid (pickI_no hp)
        rw [hp] at c1
        go_wp2_with (first | (go_at_call 126; ((with_reducible refine (c1).mono ?_); rintro e w' ⟨rfl, y, rfl⟩)))
        obtain ⟨y', hy'⟩ := ext_ex (show Below w.heap.size w (ext (ext w x) y) from by repeat (first | exact Below.refl _ _ | assumption | refine bExt ?_ _ | refine bAlloc ?_ _ | refine bDrewN ?_ _ | refine bDrew ?_ | refine bSet ?_ (by first | exact Nat.le_refl _ | omega | (simp; done) | (simp; omega)) _))
        have ho' := ho.below (ext_below (ext w x) y)
        go_roundw
        case rel => exact ⟨k + 1, D, z, q, y', by omega, by omega, by go_num, rfl, hy', by rw [HN.out, ← hy']; exact ho'⟩
        case measure => simp [intOf]; omega
      · have HN := Lib.hid (pickI_yes hp)
        rw [hp] at c1
        go_wp2_with (first | (go_at_call 126; ((with_reducible refine (c1).mono ?_); rintro e w' ⟨rfl, y, rfl⟩)) | (at_builtin; (refine wpl_push_int w _ _ _ ?_ rfl _ _ rfl D z q _ rfl (ho.below (ext_below _ y)) ?_ ?_ rfl hzb ?_); (focus (first | rfl | (simp; done))); (focus (repeat (first | exact Below.refl _ _ | assumption | refine bExt ?_ _ | refine bAlloc ?_ _ | refine bDrewN ?_ _ | refine bDrew ?_ | refine bSet ?_ (by first | exact Nat.le_refl _ | omega | (simp; done) | (simp; omega)) _))); (focus (repeat (first | exact Below.refl _ _ | assumption | refine bExt ?_ _ | refine bAlloc ?_ _ | refine bDrewN ?_ _ | refine bDrew ?_ | refine bSet ?_ (by first | exact Nat.le_refl _ | omega | (simp; done) | (simp; omega)) _))); intro A2 c2 y2 o2 hg2 hd2))
        go_roundw
        case rel => exact ⟨k + 1, A2, z + 1, c2, y2, by omega, by omega, by go_num, rfl, rfl, by rw [HN.out]; exact o2⟩
        case measure => simp [intOf]; omega
    · have hkn := Lib.hid (show k = n by omega)
      rw [hkn.out] at ho
      go_wp2
      go_ret
      exact RetI.mk_ ho (Nat.le_refl _) (by repeat (first | exact Below.refl _ _ | assumption | refine bExt ?_ _ | refine bAlloc ?_ _ | refine bDrewN ?_ _ | refine bDrew ?_ | refine bSet ?_ (by first | exact Nat.le_refl _ | omega | (simp; done) | (simp; omega)) _))
set_option maxHeartbeats 2000000 in
theorem knownAt_any (w : World) (L : Option Addr) (n cl : Nat) (l : List (Int × Int)) (a b c gap t : Int) (hl : RdS w L n l) (hn : n ≤ 1099511627776) (ht : timedB l a b c gap = true) :
    Calls Try.prog 89 #[.slice L n cl, .agg #[.int .i64 a, .int .i64 b, .int .i64 c, .int .i64 gap], .int .i64 t] w (RetI w (pickI (knAt l (runS l a b c gap 0 0) gap t) n)) := by
  have Hl := Lib.hid hl.len
  obtain ⟨h1, h2, hn40, hSl, hbd, hg0, hg1⟩ := timed_facts hl.len ht
  have hmu := fun k (hk : k < n) => slotsB_music h1 k (by rw [Hl.out]; exact hk)
  have hsb := fun k (hk : k < n) => getD_mem_bd (k := k) (by rw [hSl]; exact hk) hbd
  go_enter Try.func89, Try.ntmps89
  go_wp2_with (first | (go_at_call 62; ((with_reducible refine (timesOfDay_any _ _ _ _ _ _ _ _ _ _ _ (hl.below (by repeat (first | exact Below.refl _ _ | assumption | refine bExt ?_ _ | refine bAlloc ?_ _ | refine bDrewN ?_ _ | refine bDrew ?_ | refine bSet ?_ (by first | exact Nat.le_refl _ | omega | (simp; done) | (simp; omega)) _))) h1 h2 (by omega) (by omega)).mono ?_); rintro e w' ⟨A, n1, c1, B, m1, d1, x, rfl, rfl, oA, oB⟩; (obtain rfl : n1 = n := oA.len.symm.trans hSl); (have hrA := oA.rd))) | (go_at_call 112; (with_reducible refine (indicesKn_any _ _ _ _ _ A _ c1 _ L cl l gap t (hrA.below (by repeat (first | exact Below.refl _ _ | assumption | refine bExt ?_ _ | refine bAlloc ?_ _ | refine bDrewN ?_ _ | refine bDrew ?_ | refine bSet ?_ (by first | exact Nat.le_refl _ | omega | (simp; done) | (simp; omega)) _))) (hl.below (by repeat (first | exact Below.refl _ _ | assumption | refine bExt ?_ _ | refine bAlloc ?_ _ | refine bDrewN ?_ _ | refine bDrew ?_ | refine bSet ?_ (by first | exact Nat.le_refl _ | omega | (simp; done) | (simp; omega)) _))) hn40 hsb hmu ⟨hg0, hg1⟩ ?_ ?_ ?_ ?_ ?_ ?_ ?_ ?_).mono ?_); (focus (simp [go_sem])); (focus (simp [go_sem])); (focus (simp [go_sem])); (focus (simp [go_sem])); (focus (simp [go_sem])); (focus (simp [go_sem])); (focus (simp [go_sem])); (focus (simp [go_sem])); rintro e w' ⟨A3, n3, c3, x3, rfl, rfl, o3⟩))
  go_ret
  exact RetI.mk_ o3 (base_le (by repeat (first | exact Below.refl _ _ | assumption | refine bExt ?_ _ | refine bAlloc ?_ _ | refine bDrewN ?_ _ | refine bDrew ?_ | refine bSet ?_ (by first | exact Nat.le_refl _ | omega | (simp; done) | (simp; omega)) _))) (by repeat (first | exact Below.refl _ _ | assumption | refine bExt ?_ _ | refine bAlloc ?_ _ | refine bDrewN ?_ _ | refine bDrew ?_ | refine bSet ?_ (by first | exact Nat.le_refl _ | omega | (simp; done) | (simp; omega)) _))
end Go.Proofs.Ytogglhgagblihaa
