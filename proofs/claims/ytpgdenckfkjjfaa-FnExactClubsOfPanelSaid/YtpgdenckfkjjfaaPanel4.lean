/- Contracts of ClubsOfPanel, in the program and in the reference. Conditions: lengths below 2^40. -/
import Derived.Test.YtpgdenckfkjjfaaPanel3
set_option linter.unusedVariables false
set_option linter.unusedSimpArgs false
namespace Go.Proofs.Ytpgdenckfkjjfaa
open Go.ChangeShapes Go.WideShapes Go.ChangeAt Go.Sort Go.RowKit
theorem comp_get (zs : List Int) (j : Nat) (hj : j < zs.length) : zs.toArray[j]! = zs[j]?.getD 0 := by simp [hj]
theorem compact_SS {zs : List Int} (h : zs.Pairwise (· ≤ ·)) : SS (Lib.compact zs) ∧ ∀ y, y ∈ Lib.compact zs ↔ y ∈ zs := by
  constructor
  · unfold SS Lib.compact Lib.compactUpTo
    rw [List.pairwise_map, List.pairwise_filter]
    rw [List.pairwise_iff_getElem]
    intro i j hi hj hij _ hk
    simp only [List.length_range] at hi hj
    simp only [List.getElem_range] at hk ⊢
    rw [comp_get zs i hi, comp_get zs j hj]
    simp only [Lib.keeps, decide_eq_true_eq] at hk
    have h1 := pw_get h (i := i) (j := j - 1) (by omega) (by omega)
    have h2 := pw_get h (i := j - 1) (j := j) (by omega) hj
    rcases hk with hk | hk
    · omega
    · rw [comp_get zs j hj, comp_get zs (j - 1) (by omega)] at hk; omega
  · intro y
    unfold Lib.compact Lib.compactUpTo
    simp only [List.mem_map, List.mem_filter, List.mem_range]
    constructor
    · rintro ⟨j, ⟨hj, _⟩, rfl⟩
      rw [comp_get zs j hj]
      exact getD_mem 0 zs j hj
    · intro hy
      have key : ∀ i, i < zs.length → zs[i]?.getD 0 = y → ∃ a, (a < zs.length ∧ Lib.keeps zs.toArray a = true) ∧ zs.toArray[a]! = y := by
        intro i
        induction i with
        | zero => intro hi e; exact ⟨0, ⟨hi, by simp [Lib.keeps]⟩, by rw [comp_get zs 0 hi]; exact e⟩
        | succ i ih =>
          intro hi e
          by_cases e2 : zs[i]?.getD 0 = y
          · exact ih (by omega) e2
          · refine ⟨i + 1, ⟨hi, ?_⟩, by rw [comp_get zs _ hi]; exact e⟩
            simp only [Lib.keeps, decide_eq_true_eq]
            right
            rw [comp_get zs _ hi, show i + 1 - 1 = i from rfl, comp_get zs i (by omega), e]
            exact fun h => e2 h.symm
      obtain ⟨i, hi, e⟩ := List.mem_iff_getElem.1 hy
      exact key i hi (by simp [hi, e])
theorem compact_sset (L : List Int) : Lib.compact (sortI L) = ssetOf L := by
  obtain ⟨h1, h2⟩ := compact_SS (sortI_sorted L)
  obtain ⟨h3, h4⟩ := sset_spec L
  exact h1.unique h3 (fun y => by rw [h2, h4, (sortI_perm L).mem_iff])
theorem OwI.cut {base n c k : Nat} {w : World} {A : Option Addr} {l : List Int} (h : OwI base w A n c l) (hk : k ≤ n) (hk0 : k = 0 → n = 0) : OwI base w A k c (l.take k) := by
  have hl := h.len
  refine ⟨by simp; omega, ?_⟩
  rcases h.2 with ⟨hv, h0⟩ | ⟨g, cap, cur, hv, hb, hgg, hnc, hcm, hsz, htake⟩
  · left
    have e : k = n := by omega
    subst e; exact ⟨hv, h0⟩
  · right
    simp only [Value.slice.injEq] at hv
    obtain ⟨rfl, _, rfl⟩ := hv
    refine ⟨g, c, cur, rfl, hb, hgg, by omega, hcm, hsz, ?_⟩
    have := congrArg (List.take (k * 1)) htake
    rw [List.take_take, Nat.min_eq_left (by omega)] at this
    rw [this, List.map_take, Nat.mul_one]
theorem compact_mem0 {l : List Int} (h : 0 < l.length) : l[0]?.getD 0 ∈ Lib.compact l := by
  unfold Lib.compact Lib.compactUpTo
  simp only [List.mem_map, List.mem_filter, List.mem_range]
  exact ⟨0, ⟨h, by simp [Lib.keeps]⟩, comp_get l 0 h⟩
def RetC (base : Nat) (w : World) (A : Option Addr) (l : List Int) (e : Ending) (w' : World) : Prop := ∃ n c, e = .returned (.slice A n c) ∧ OwI base w' A n c l ∧ w.grownBy w' (blkOf A)
theorem compactInts_any (w : World) (base : Nat) (A : Option Addr) (n c : Nat) (l : List Int) (ho : OwI base w A n c l) (hn : n ≤ 1099511627776) :
    Calls Try.prog 49 #[.slice A n c] w (RetC base w A (Lib.compact l)) := by
  have hl := ho.len
  have hcap := ho.cap_.1
  by_cases h0 : n = 0
  · subst h0
    have hl0 : l = [] := List.eq_nil_of_length_eq_zero hl
    subst hl0
    refine (Try.slices_Compact_int_empty A c w).mono fun e w' h => ?_
    obtain ⟨he, rfl⟩ := h
    exact ⟨0, c, he, ho, World.grownBy.refl _ _⟩
  · subst hl
    rcases ho.2 with ⟨hv, hz⟩ | ⟨g, cap, cur, hv, hb, hgg, hnc, hcm, hsz, htake⟩
    · omega
    · simp only [Value.slice.injEq] at hv
      obtain ⟨rfl, _, rfl⟩ := hv
      have hH := holds_of_blockI (ss := l) hgg (by simpa using htake)
      have hle := Lib.compact_length_le l
      refine (Try.slices_Compact_int g 0 c l w hH (by omega) hcap).mono fun e w' h => ?_
      obtain ⟨he, k, rfl⟩ := h
      have hlen : (Lib.compact l ++ List.replicate (l.length - (Lib.compact l).length) 0).length = l.length := by simp; omega
      have h1 := ownsRow_sortedI (n := k) (os := #[]) (ss := l) hlen hb hgg hnc hcm hsz
      have h2 := grownBy_sortedI (w := w) (g := g) (n := k) (os := #[]) (Lib.compact l ++ List.replicate (l.length - (Lib.compact l).length) 0).toArray
      rw [grow_empty] at h1 h2
      have h3 := OwI.cut (k := (Lib.compact l).length) (l := Lib.compact l ++ List.replicate (l.length - (Lib.compact l).length) 0) h1 hle (fun hz => ?_)
      · rw [List.take_left] at h3
        exact ⟨_, _, he, h3, h2⟩
      · exfalso
        have hm := (compact_mem0 (l := l) (by omega))
        rw [List.eq_nil_of_length_eq_zero hz] at hm
        cases hm
def coOk (l : List T3) (L : List Int) : Bool := offsB l && risB L 0 999 && L.all fun x => (fI l x).2
def coV (l : List T3) (L : List Int) : List Int := if coOk l L then ssetOf (L.map (clubV l)) else []
theorem coOk_of {l : List T3} {L : List Int} (h : coOk l L = true) : offsB l = true ∧ risB L 0 999 = true ∧ ∀ x ∈ L, (fI l x).2 = true := by
  simp only [coOk, Bool.and_eq_true] at h; exact ⟨h.1.1, h.1.2, List.all_eq_true.1 h.2⟩
theorem co_no {l : List T3} {L : List Int} (h : coOk l L = false) : coV l L = [] := by simp [coV, h]
theorem co_miss {l : List T3} {L : List Int} {k u : Nat} (hl : L.length = u) (hk : k < u) (h : (fI l (L[k]?.getD 0)).2 = false) : coOk l L = false := by
  have : (L.all fun x => (fI l x).2) = false := all_miss 0 (k := k) (by omega) h
  simp [coOk, this]
theorem co_end {l : List T3} {L : List Int} (h1 : offsB l = true) (h2 : risB L 0 999 = true) (h3 : (L.all fun x => (fI l x).2) = true) : coOk l L = true := by simp [coOk, h1, h2, h3]
theorem co_ris {l : List T3} {L : List Int} (h1 : offsB l = true) (h : risB L 1 999 = false) : coOk l L = false := by
  rw [Bool.eq_false_iff]
  intro hk
  obtain ⟨_, h2, h3⟩ := coOk_of hk
  have := ris_up (b := 1) h2 (fun x hx => by
    obtain ⟨h4, h5⟩ := fI_lt (h3 x hx)
    have := (offs_at h1 _ h4).1; omega)
  rw [h] at this; cases this
theorem ris_len {L : List Int} {b : Int} (hb : 0 ≤ b) (h : risB L 0 b = true) : ∀ i, i < L.length → (i : Int) ≤ L[i]?.getD 0 := by
  intro i
  induction i with
  | zero => intro hi; have := risB_at h 0 hi; simp only [risAt, Bool.and_eq_true] at this; have := inB_iff.1 this.1; omega
  | succ i ih =>
    intro hi
    have h1 := ih (by omega)
    have := risB_at h (i + 1) hi
    simp only [risAt, Bool.and_eq_true, Bool.or_eq_true, decide_eq_true_eq] at this
    have h2 := this.2
    simp at h2
    have : (i : Int) + 1 ≤ L[i + 1]?.getD 0 := by omega
    omega
theorem ris_1000 {L : List Int} (h : risB L 0 999 = true) : L.length ≤ 1000 := by
  by_cases h0 : L.length = 0
  · omega
  · have h1 := ris_len (by omega) h (L.length - 1) (by omega)
    have h2 := risB_at h (L.length - 1) (by omega)
    simp only [risAt, Bool.and_eq_true] at h2
    have := inB_iff.1 h2.1
    omega
theorem coV_len (l : List T3) (L : List Int) : (coV l L).length ≤ 1000 := by
  unfold coV
  cases h : coOk l L
  · simp
  · have h1 := ris_1000 (coOk_of h).2.1
    have := sset_len (L.map (clubV l))
    simp only [List.length_map] at this
    simp only [if_true]; omega
theorem map_step0 (f : Int → Int) (L : List Int) (k : Nat) (h : k < L.length) : (L.take (k + 1)).map f = (L.take k).map f ++ [f (L[k]?.getD 0)] := by rw [take_succ_getD 0 L k h]; simp
set_option maxHeartbeats 2000000 in
theorem specClubsOfPanel_any (w : World) (A : Option Addr) (n c : Nat) (l : List T3) (ha : Rd3 w A n l) (hn : n ≤ 1099511627776) (C : Option Addr) (u f : Nat) (L : List Int) (hp : RdI w C u L) (hu : u ≤ 1099511627776) :
    Calls Try.prog 23 #[.slice A n c, .slice C u f] w (RetIB w (coV l L) (coOk l L)) := by
  have Hu := Lib.hid hp.len
  cases hof : offsB l
  · have hk : coOk l L = false := by simp [coOk, hof]
    rw [co_no hk, hk]
    go_enter Try.func23, Try.ntmps23
    go_wp2_with (first | (go_at_call 29; ((with_reducible refine (paOfficials_any _ _ _ _ _ ha hn).mono ?_); rintro e w' ⟨rfl, x, rfl⟩)))
    go_ret2
    exact RetIB.mk_ OwI.nil_ (Nat.le_refl _) (by repeat (first | exact Below.refl _ _ | assumption | refine bExt ?_ _ | refine bAlloc ?_ _ | refine bDrewN ?_ _ | refine bDrew ?_ | refine bSet ?_ (by first | exact Nat.le_refl _ | omega | (simp; done) | (simp; omega)) _))
  cases hr : risB L 1 999
  · have hk := co_ris hof hr
    rw [co_no hk, hk]
    go_enter Try.func23, Try.ntmps23
    go_wp2_with (first | (go_at_call 29; ((with_reducible refine (paOfficials_any _ _ _ _ _ ha hn).mono ?_); rintro e w' ⟨rfl, x, rfl⟩)) | (go_at_call 44; ((with_reducible refine (l1Rising_any _ _ _ _ _ _ _ (hp.below (by repeat (first | exact Below.refl _ _ | assumption | refine bExt ?_ _ | refine bAlloc ?_ _ | refine bDrewN ?_ _ | refine bDrew ?_ | refine bSet ?_ (by first | exact Nat.le_refl _ | omega | (simp; done) | (simp; omega)) _))) hu).mono ?_); rintro e w' ⟨rfl, rfl⟩)))
    go_ret2
    exact RetIB.mk_ OwI.nil_ (Nat.le_refl _) (by repeat (first | exact Below.refl _ _ | assumption | refine bExt ?_ _ | refine bAlloc ?_ _ | refine bDrewN ?_ _ | refine bDrew ?_ | refine bSet ?_ (by first | exact Nat.le_refl _ | omega | (simp; done) | (simp; omega)) _))
  have hr0 := ris_down (a := 0) hr (by omega)
  have hu1000 := ris_1000 hr0
  rw [Hu.out] at hu1000
  have Hr0 := Lib.hid hr0
  clear hr0
  go_enter Try.func23, Try.ntmps23
  go_wp2_with (first | (go_at_call 29; ((with_reducible refine (paOfficials_any _ _ _ _ _ ha hn).mono ?_); rintro e w' ⟨rfl, x, rfl⟩)) | (go_at_call 44; ((with_reducible refine (l1Rising_any _ _ _ _ _ _ _ (hp.below (by repeat (first | exact Below.refl _ _ | assumption | refine bExt ?_ _ | refine bAlloc ?_ _ | refine bDrewN ?_ _ | refine bDrew ?_ | refine bSet ?_ (by first | exact Nat.le_refl _ | omega | (simp; done) | (simp; omega)) _))) hu).mono ?_); rintro e w' ⟨rfl, rfl⟩)))
  go_loopw [6, 20] (fun s i wr => ∃ (k : Nat) (D : Option Addr) (z q : Nat) (y : World), k ≤ u ∧ z ≤ k ∧ i = .int .i64 k ∧ s = .slice D z q ∧ wr = ext w y ∧ OwI w.heap.size (ext w y) D z q (ssetOf ((L.take k).map (clubV l))) ∧ Hid ((L.take k).all (fun x => (fI l x).2) = true)) (fun _ i _ => u - (intOf i).toNat)
  case atStart => exact ⟨0, none, 0, 0, x, by omega, by omega, rfl, rfl, rfl, OwI.nil_, rfl⟩
  case round =>
    obtain ⟨k, D, z, q, y, hk, hzk, rfl, rfl, rfl, ho, HA⟩ := hrel
    by_cases hlt : k < u
    · have hlen := sset_len ((L.take k).map (clubV l) ++ [clubV l (L[k]?.getD 0)])
      rw [sset_append] at hlen
      simp only [List.length_append, List.length_map, List.length_take, List.length_singleton] at hlen
      have Hlen := Lib.hid (show (putP (ssetOf ((L.take k).map (clubV l))) (clubV l (L[k]?.getD 0))).length ≤ k + 1 by omega)
      clear hlen
      obtain ⟨bp, op, rfl, hbp, hcp⟩ := hp.open_ (by omega)
      have hck := hcp k hlt
      rw [List.getD_eq_getElem?_getD] at hck
      clear hcp
      have HM := map_step0 (clubV l) L k (by rw [Hu.out]; exact hlt)
      have HMI := fun h => co_miss (l := l) Hu.out hlt h
      have HAS := fun h => all_step (P := fun x => (fI l x).2) 0 (by rw [Hu.out]; exact hlt) HA.out h
      generalize L[k]?.getD 0 = qn at *
      have HM := Lib.hid HM
      have HMI := Lib.hid HMI
      have HAS := Lib.hid HAS
      have hbd := clubV_bd hof qn
      have cq := paFind_any (ext w y) A n c l qn (ha.below (by repeat (first | exact Below.refl _ _ | assumption | refine bExt ?_ _ | refine bAlloc ?_ _ | refine bDrewN ?_ _ | refine bDrew ?_ | refine bSet ?_ (by first | exact Nat.le_refl _ | omega | (simp; done) | (simp; omega)) _))) hn
      cases hf : (fI l qn).2
      · have hk2 := HMI.out hf
        have hv := Lib.hid (co_no hk2)
        have hk2 := Lib.hid hk2
        rw [show findV l qn = -1 by simp [findV, hf]] at cq
        go_wp2_with (first | (go_at_call 41; ((with_reducible refine (cq).mono ?_); rintro e w' ⟨rfl, y2, rfl⟩)))
        go_ret2
        rw [hv.out, hk2.out]
        exact RetIB.mk_ OwI.nil_ (Nat.le_refl _) (by repeat (first | exact Below.refl _ _ | assumption | refine bExt ?_ _ | refine bAlloc ?_ _ | refine bDrewN ?_ _ | refine bDrew ?_ | refine bSet ?_ (by first | exact Nat.le_refl _ | omega | (simp; done) | (simp; omega)) _))
      · have HAk := Lib.hid (HAS.out hf)
        obtain ⟨hcv, hfv⟩ := clubV_find hf
        have hfl := (fI_lt hf).1
        obtain ⟨fi, hfi⟩ : ∃ fi, (fI l qn).1 = fi := ⟨_, rfl⟩
        rw [hfi] at hcv hfv hfl
        rw [ha.len] at hfl
        clear hfi hf
        obtain ⟨b, off, rfl, hb0, hd0, hd1, hd2⟩ := ha.at_ fi hfl
        rw [← hcv] at hd1
        rw [hfv] at cq
        clear hcv hfv
        have HS := Lib.hid (show ssetOf ((L.take (k + 1)).map (clubV l)) = putP (ssetOf ((L.take k).map (clubV l))) (clubV l qn) by rw [HM.out, sset_append])
        have hfI : (fi : Int) < n := by omega
        have hfn : ¬ (fi : Int) < 0 := by omega
        go_wp2_with (first | (go_at_call 41; ((with_reducible refine (cq).mono ?_); rintro e w' ⟨rfl, y2, rfl⟩)) | (go_at_call 45; ((with_reducible refine (l1Put_any _ w.heap.size _ _ _ _ _ (ho.below (by repeat (first | exact Below.refl _ _ | assumption | refine bExt ?_ _ | refine bAlloc ?_ _ | refine bDrewN ?_ _ | refine bDrew ?_ | refine bSet ?_ (by first | exact Nat.le_refl _ | omega | (simp; done) | (simp; omega)) _))) (base_le (by repeat (first | exact Below.refl _ _ | assumption | refine bExt ?_ _ | refine bAlloc ?_ _ | refine bDrewN ?_ _ | refine bDrew ?_ | refine bSet ?_ (by first | exact Nat.le_refl _ | omega | (simp; done) | (simp; omega)) _))) (by omega)).mono ?_); rintro e w' ⟨A1, n1, c1, x1, rfl, rfl, o1⟩)))
        obtain ⟨y', hy⟩ := ext_ex (show Below w.heap.size w (ext (ext (ext w y) y2) x1) from by repeat (first | exact Below.refl _ _ | assumption | refine bExt ?_ _ | refine bAlloc ?_ _ | refine bDrewN ?_ _ | refine bDrew ?_ | refine bSet ?_ (by first | exact Nat.le_refl _ | omega | (simp; done) | (simp; omega)) _))
        have hz1 : n1 ≤ k + 1 := by have := o1.len; have := Hlen.out; omega
        rw [hy] at o1
        go_roundw
        case rel => exact ⟨k + 1, A1, n1, c1, y', by omega, hz1, by go_num, rfl, hy, by rw [HS.out]; exact o1, HAk⟩
        case measure => simp [intOf]; omega
    · have HAll : (L.all fun x => (fI l x).2) = true := all_end HA.out (by rw [Hu.out]; omega)
      have hk2 := co_end hof Hr0.out HAll
      have hv := Lib.hid (show coV l L = ssetOf (L.map (clubV l)) by simp [coV, hk2])
      have hk2 := Lib.hid hk2
      clear HAll
      rw [List.take_of_length_le (by rw [Hu.out]; omega)] at ho
      go_wp2
      go_ret2
      rw [hv.out, hk2.out]
      exact RetIB.mk_ ho (Nat.le_refl _) (by repeat (first | exact Below.refl _ _ | assumption | refine bExt ?_ _ | refine bAlloc ?_ _ | refine bDrewN ?_ _ | refine bDrew ?_ | refine bSet ?_ (by first | exact Nat.le_refl _ | omega | (simp; done) | (simp; omega)) _))
set_option maxHeartbeats 2000000 in
theorem implClubsOfPanel_any (w : World) (A : Option Addr) (n c : Nat) (l : List T3) (ha : Rd3 w A n l) (hn : n ≤ 1099511627776) (hnc : n ≤ c) (C : Option Addr) (u f : Nat) (L : List Int) (hp : RdI w C u L) (hu : u ≤ 1099511627776) :
    Calls Try.prog 24 #[.slice A n c, .slice C u f] w (RetIB w (coV l L) (coOk l L)) := by
  have Hu := Lib.hid hp.len
  have c1 := fun w' (h : RdI w' C u L) => isIncreasing_any w' C u f L 1000 h hu (by omega) (by omega)
  simp only [show (1000 : Int) - 1 = 999 from rfl] at c1
  cases hof : offsB l
  · have hk : coOk l L = false := by simp [coOk, hof]
    rw [co_no hk, hk]
    go_enter Try.func24, Try.ntmps24
    go_wp2_with (first | (go_at_call 12; ((with_reducible refine (implAreOfficials_any _ _ _ _ _ ha hn hnc).mono ?_); rintro e w' ⟨rfl, x, rfl⟩)))
    go_ret2
    exact RetIB.mk_ OwI.nil_ (Nat.le_refl _) (by repeat (first | exact Below.refl _ _ | assumption | refine bExt ?_ _ | refine bAlloc ?_ _ | refine bDrewN ?_ _ | refine bDrew ?_ | refine bSet ?_ (by first | exact Nat.le_refl _ | omega | (simp; done) | (simp; omega)) _))
  cases hr : risB L 0 999
  · have hk : coOk l L = false := by simp [coOk, hr]
    rw [co_no hk, hk]
    go_enter Try.func24, Try.ntmps24
    go_wp2_with (first | (go_at_call 12; ((with_reducible refine (implAreOfficials_any _ _ _ _ _ ha hn hnc).mono ?_); rintro e w' ⟨rfl, x, rfl⟩)) | (go_at_call 46; ((with_reducible refine (c1 _ (hp.below (by repeat (first | exact Below.refl _ _ | assumption | refine bExt ?_ _ | refine bAlloc ?_ _ | refine bDrewN ?_ _ | refine bDrew ?_ | refine bSet ?_ (by first | exact Nat.le_refl _ | omega | (simp; done) | (simp; omega)) _)))).mono ?_); rintro e w' ⟨rfl, rfl⟩)))
    go_ret2
    exact RetIB.mk_ OwI.nil_ (Nat.le_refl _) (by repeat (first | exact Below.refl _ _ | assumption | refine bExt ?_ _ | refine bAlloc ?_ _ | refine bDrewN ?_ _ | refine bDrew ?_ | refine bSet ?_ (by first | exact Nat.le_refl _ | omega | (simp; done) | (simp; omega)) _))
  have hu1000 := ris_1000 hr
  rw [Hu.out] at hu1000
  go_enter Try.func24, Try.ntmps24
  go_wp2_with (first | (go_at_call 12; ((with_reducible refine (implAreOfficials_any _ _ _ _ _ ha hn hnc).mono ?_); rintro e w' ⟨rfl, x, rfl⟩)) | (go_at_call 46; ((with_reducible refine (c1 _ (hp.below (by repeat (first | exact Below.refl _ _ | assumption | refine bExt ?_ _ | refine bAlloc ?_ _ | refine bDrewN ?_ _ | refine bDrew ?_ | refine bSet ?_ (by first | exact Nat.le_refl _ | omega | (simp; done) | (simp; omega)) _)))).mono ?_); rintro e w' ⟨rfl, rfl⟩)))
  go_loopw [6, 21] (fun s i wr => ∃ (k : Nat) (D : Option Addr) (q : Nat) (y : World), k ≤ u ∧ i = .int .i64 k ∧ s = .slice D k q ∧ wr = ext w y ∧ OwI w.heap.size (ext w y) D k q ((L.take k).map (clubV l)) ∧ Hid ((L.take k).all (fun x => (fI l x).2) = true)) (fun _ i _ => u - (intOf i).toNat)
  case atStart =>
    have o0 := OwI.lit_ (R := w) (w := ext w x) (ext_below _ _) [] (by simp [maxLen]) #[] rfl
    obtain ⟨z, hz⟩ := ext_ex (show Below w.heap.size w ((ext w x).alloc (.cells #[] 3)) from by repeat (first | exact Below.refl _ _ | assumption | refine bExt ?_ _ | refine bAlloc ?_ _ | refine bDrewN ?_ _ | refine bDrew ?_ | refine bSet ?_ (by first | exact Nat.le_refl _ | omega | (simp; done) | (simp; omega)) _))
    rw [hz] at o0
    exact ⟨0, _, _, z, by omega, rfl, rfl, hz, o0, rfl⟩
  case round =>
    obtain ⟨k, D, q, y, hk, rfl, rfl, rfl, ho, HA⟩ := hrel
    by_cases hlt : k < u
    · have hkb : k ≤ 1099511627776 := by omega
      obtain ⟨bp, op, rfl, hbp, hcp⟩ := hp.open_ (by omega)
      have hck := hcp k hlt
      rw [List.getD_eq_getElem?_getD] at hck
      clear hcp
      have HM := map_step0 (clubV l) L k (by rw [Hu.out]; exact hlt)
      have HMI := fun h => co_miss (l := l) Hu.out hlt h
      have HAS := fun h => all_step (P := fun x => (fI l x).2) 0 (by rw [Hu.out]; exact hlt) HA.out h
      generalize L[k]?.getD 0 = qn at *
      have HM := Lib.hid HM
      have HMI := Lib.hid HMI
      have HAS := Lib.hid HAS
      have hbd := clubV_bd hof qn
      have cq := clubOf_any (ext w y) A n c l qn (ha.below (by repeat (first | exact Below.refl _ _ | assumption | refine bExt ?_ _ | refine bAlloc ?_ _ | refine bDrewN ?_ _ | refine bDrew ?_ | refine bSet ?_ (by first | exact Nat.le_refl _ | omega | (simp; done) | (simp; omega)) _))) hn
      cases hf : (fI l qn).2
      · have hk2 := HMI.out hf
        have hv := Lib.hid (co_no hk2)
        have hk2 := Lib.hid hk2
        rw [show clubV l qn = 0 by simp [clubV, hf]] at cq
        go_wp2_with (first | (go_at_call 47; ((with_reducible refine (cq).mono ?_); rintro e w' ⟨rfl, y2, rfl⟩)))
        go_ret2
        rw [hv.out, hk2.out]
        exact RetIB.mk_ OwI.nil_ (Nat.le_refl _) (by repeat (first | exact Below.refl _ _ | assumption | refine bExt ?_ _ | refine bAlloc ?_ _ | refine bDrewN ?_ _ | refine bDrew ?_ | refine bSet ?_ (by first | exact Nat.le_refl _ | omega | (simp; done) | (simp; omega)) _))
      · have HAk := Lib.hid (HAS.out hf)
        have hne : (clubV l qn == 0) = false := by
          have h1 := (clubV_find hf).1
          have h2 := (offs_at hof _ (fI_lt hf).1).2
          simp; omega
        go_wp2_with (first | (go_at_call 47; ((with_reducible refine (cq).mono ?_); rintro e w' ⟨rfl, y2, rfl⟩)) | (at_builtin; (refine wpl_push_int w _ _ _ ?_ rfl _ _ rfl D k q _ rfl (ho.below (ext_below _ y2)) ?_ ?_ rfl hkb ?_); (focus (first | rfl | (simp; done))); (focus (repeat (first | exact Below.refl _ _ | assumption | refine bExt ?_ _ | refine bAlloc ?_ _ | refine bDrewN ?_ _ | refine bDrew ?_ | refine bSet ?_ (by first | exact Nat.le_refl _ | omega | (simp; done) | (simp; omega)) _))); (focus (repeat (first | exact Below.refl _ _ | assumption | refine bExt ?_ _ | refine bAlloc ?_ _ | refine bDrewN ?_ _ | refine bDrew ?_ | refine bSet ?_ (by first | exact Nat.le_refl _ | omega | (simp; done) | (simp; omega)) _))); intro A1 c1' y3 o1 hg1 hd1))
        go_roundw
        case rel => exact ⟨k + 1, A1, c1', y3, by omega, by go_num, rfl, rfl, by rw [HM.out]; exact o1, HAk⟩
        case measure => simp [intOf]; omega
    · have HAll : (L.all fun x => (fI l x).2) = true := all_end HA.out (by rw [Hu.out]; omega)
      have hk2 := co_end hof hr HAll
      have hv := Lib.hid (show coV l L = Lib.compact (sortI (L.map (clubV l))) by rw [compact_sset]; simp [coV, hk2])
      have hk2 := Lib.hid hk2
      clear HAll
      rw [List.take_of_length_le (by rw [Hu.out]; omega)] at ho
      have hkb : k ≤ 1099511627776 := by omega
      go_wp2_with (first | (go_at_call 48; ((with_reducible refine (sortInts_any _ _ _ _ _ _ ho hkb).mono ?_); rintro e w' ⟨rfl, o2, hg2⟩; (have hB2 := below_grown (ext_below _ _) hg2 (fun k hk => (ho.blk hk).1)))) | (go_at_call 49; ((with_reducible refine (compactInts_any _ _ _ _ _ _ o2 hkb).mono ?_); rintro e w' ⟨n3, c3, rfl, o3, hg3⟩)))
      go_ret2
      rw [hv.out, hk2.out]
      exact RetIB.mk_ o3 (Nat.le_refl _) (below_grown hB2 hg3 (fun k hk => (o2.blk hk).1))
end Go.Proofs.Ytpgdenckfkjjfaa
