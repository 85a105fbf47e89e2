/- Sorted sets of ints: the reference's l1Put. Conditions: lengths below 2^40. -/
import Derived.Test.YtppcmnolkbobfaaSorts
set_option linter.unusedVariables false
set_option linter.unusedSimpArgs false
set_option maxRecDepth 100000
namespace Go.Proofs.Ytppcmnolkbobfaa
open Go.Sort Go.RowKit
/-- Strictly increasing. -/
def SS (l : List Int) : Prop := l.Pairwise (· < ·)
theorem SS.nodup {l : List Int} (h : SS l) : l.Nodup := List.Pairwise.imp (fun h => by omega) h
theorem SS.unique {a b : List Int} (ha : SS a) (hb : SS b) (h : ∀ y, y ∈ a ↔ y ∈ b) : a = b :=
  List.Perm.eq_of_pairwise (le := (· < ·)) (fun x y _ _ h1 h2 => by omega) ha hb ((List.perm_ext_iff_of_nodup ha.nodup hb.nodup).2 h)
theorem SS.get {l : List Int} (h : SS l) {i j : Nat} (hij : i < j) (hj : j < l.length) : l[i]?.getD 0 < l[j]?.getD 0 := by
  have := (List.pairwise_iff_getElem.1 h) i j (by omega) hj hij
  simpa [show i < l.length by omega, hj] using this
theorem sortI_SS {l : List Int} (h : l.Nodup) : SS (sortI l) := by
  have h1 := sortI_sorted l
  have h2 : (sortI l).Nodup := (sortI_perm l).nodup_iff.2 h
  exact List.Pairwise.imp₂ (fun a b h1 h2 => by omega) h1 h2
def putK (l : List Int) (x : Int) : Nat := (l.takeWhile fun y => decide (y < x)).length
theorem putK_le (l : List Int) (x : Int) : putK l x ≤ l.length := (List.takeWhile_sublist _).length_le
theorem putK_eq {l : List Int} {x : Int} {k : Nat} (hk : k ≤ l.length) (h1 : ∀ j, j < k → l[j]?.getD 0 < x) (h2 : k = l.length ∨ ¬ l[k]?.getD 0 < x) : putK l x = k := by
  induction l generalizing k with
  | nil => simp at hk; subst hk; rfl
  | cons a r ih =>
    cases k with
    | zero =>
      rcases h2 with h2 | h2
      · simp at h2
      · simp at h2
        unfold putK
        rw [List.takeWhile_cons_of_neg (by simpa using h2)]
        rfl
    | succ k =>
      have h0 := h1 0 (by omega)
      simp at h0
      have := ih (k := k) (by simpa using hk) (fun j hj => by have := h1 (j + 1) (by omega); simpa using this) (h2.imp (fun h => by simpa using h) (fun h => by simpa using h))
      unfold putK at *
      rw [List.takeWhile_cons_of_pos (by simpa using h0), List.length_cons, this]
theorem putK_lt {l : List Int} {x : Int} {j : Nat} (h : j < putK l x) : l[j]?.getD 0 < x := by
  have hm : (l.takeWhile fun y => decide (y < x))[j]?.getD 0 ∈ l.takeWhile fun y => decide (y < x) := getD_mem 0 _ _ h
  have h2 := (List.all_takeWhile (p := fun y : Int => decide (y < x)) (l := l))
  have h3 := List.all_eq_true.1 h2 _ hm
  have hp : l.takeWhile (fun y => decide (y < x)) = l.take (putK l x) := (List.prefix_iff_eq_take.1 (List.takeWhile_prefix _))
  rw [hp, List.getElem?_take_of_lt h] at h3
  simpa using h3
theorem putK_ge {l : List Int} {x : Int} (h : putK l x < l.length) : ¬ l[putK l x]?.getD 0 < x := by
  induction l with
  | nil => simp at h
  | cons a r ih =>
    by_cases ha : a < x
    · have e : putK (a :: r) x = putK r x + 1 := by unfold putK; rw [List.takeWhile_cons_of_pos (by simpa using ha), List.length_cons]
      rw [e] at h ⊢
      have := ih (by simpa using h)
      simpa using this
    · have e : putK (a :: r) x = 0 := by unfold putK; rw [List.takeWhile_cons_of_neg (by simpa using ha)]; rfl
      rw [e]; simpa using ha
/-- l with x put in, unless it is there. -/
def putP (l : List Int) (x : Int) : List Int := if putK l x < l.length ∧ l[putK l x]?.getD 0 = x then l else l.take (putK l x) ++ [x] ++ l.drop (putK l x)
theorem putP_mem (l : List Int) (x y : Int) : y ∈ putP l x ↔ y = x ∨ y ∈ l := by
  unfold putP
  split
  · rename_i h
    constructor
    · exact .inr
    · rintro (rfl | h1)
      · have := getD_mem 0 l _ h.1; rw [h.2] at this; exact this
      · exact h1
  · have : y ∈ l ↔ y ∈ l.take (putK l x) ∨ y ∈ l.drop (putK l x) := by rw [← List.mem_append, List.take_append_drop]
    rw [this]
    simp only [List.mem_append, List.mem_singleton]
    constructor
    · rintro ((h | h) | h)
      · exact .inr (.inl h)
      · exact .inl h
      · exact .inr (.inr h)
    · rintro (h | h | h)
      · exact .inl (.inr h)
      · exact .inl (.inl h)
      · exact .inr h
theorem putP_SS {l : List Int} (h : SS l) (x : Int) : SS (putP l x) := by
  unfold putP
  split
  · exact h
  · rename_i hne
    have h2 := @putK_lt l x
    have h3 := @putK_ge l x
    have hle := putK_le l x
    generalize putK l x = k at *
    have hdrop : ∀ b ∈ l.drop k, x < b := fun b hb => by
      obtain ⟨i, hi, rfl⟩ := List.mem_iff_getElem.1 hb
      simp only [List.length_drop] at hi
      have h4 := h3 (by omega)
      have h5 : l[k]?.getD 0 ≠ x := fun e => hne ⟨by omega, e⟩
      have e1 : (l.drop k)[i]'(by simpa using hi) = l[k + i]?.getD 0 := by simp [show k + i < l.length by omega]
      rw [e1]
      by_cases hi0 : i = 0
      · subst hi0; rw [Nat.add_zero]; omega
      · have := h.get (i := k) (j := k + i) (by omega) (by omega); omega
    have htake : ∀ a ∈ l.take k, a < x := fun a ha => by
      obtain ⟨i, hi, rfl⟩ := List.mem_iff_getElem.1 ha
      simp only [List.length_take] at hi
      have := h2 (j := i) (by omega)
      simp [show i < l.length by omega] at this
      simp; omega
    rw [List.append_assoc]
    refine List.pairwise_append.2 ⟨List.Pairwise.sublist (List.take_sublist k l) h, ?_, fun a ha b hb => ?_⟩
    · exact List.pairwise_cons.2 ⟨hdrop, List.Pairwise.sublist (List.drop_sublist k l) h⟩
    · have ha' := htake a ha
      simp only [List.singleton_append, List.mem_cons] at hb
      rcases hb with rfl | hb
      · exact ha'
      · have := hdrop b hb; omega
theorem putP_len (l : List Int) (x : Int) : (putP l x).length ≤ l.length + 1 := by
  unfold putP
  split
  · omega
  · have := putK_le l x; simp; omega
def ssetOf (L : List Int) : List Int := L.foldl putP []
theorem sset_spec (L : List Int) : SS (ssetOf L) ∧ ∀ y, y ∈ ssetOf L ↔ y ∈ L := by
  have h : ∀ (L m : List Int), SS m → SS (L.foldl putP m) ∧ ∀ y, y ∈ L.foldl putP m ↔ y ∈ m ∨ y ∈ L := by
    intro L
    induction L with
    | nil => intro m hm; simp [hm]
    | cons a r ih =>
      intro m hm
      obtain ⟨h1, h2⟩ := ih (putP m a) (putP_SS hm a)
      refine ⟨h1, fun y => ?_⟩
      rw [List.foldl_cons, h2, putP_mem, List.mem_cons]
      constructor
      · rintro ((h | h) | h)
        · exact .inr (.inl h)
        · exact .inl h
        · exact .inr (.inr h)
      · rintro (h | h | h)
        · exact .inl (.inr h)
        · exact .inl (.inl h)
        · exact .inr h
  have := h L [] (by simp [SS])
  exact ⟨this.1, fun y => by rw [ssetOf, this.2]; simp⟩
theorem sset_append (L : List Int) (x : Int) : ssetOf (L ++ [x]) = putP (ssetOf L) x := by simp [ssetOf, List.foldl_append]
theorem sset_len (L : List Int) : (ssetOf L).length ≤ L.length := by
  have h : ∀ (L m : List Int), (L.foldl putP m).length ≤ m.length + L.length := by
    intro L
    induction L with
    | nil => intro m; simp
    | cons a r ih => intro m; have := ih (putP m a); have := putP_len m a; simp only [List.foldl_cons, List.length_cons]; omega
  have := h L []; simpa [ssetOf] using this
theorem sset_nodup {L : List Int} (h : L.Nodup) : ssetOf L = sortI L :=
  (sset_spec L).1.unique (sortI_SS h) (fun y => by rw [(sset_spec L).2, (sortI_perm L).mem_iff])
def RetP (base : Nat) (w : World) (l : List Int) (e : Ending) (w' : World) : Prop := ∃ A n c x, e = .returned (.slice A n c) ∧ w' = ext w x ∧ OwI base (ext w x) A n c l
theorem OwI.retP {base n c : Nat} {w : World} {A : Option Addr} {l : List Int} (h : OwI base w A n c l) : RetP base w l (.returned (.slice A n c)) w :=
  ⟨A, n, c, _, rfl, ext_self w, by rw [← ext_self w]; exact h⟩
set_option maxHeartbeats 1000000 in
theorem l1Put_any (w : World) (base : Nat) (A : Option Addr) (n c : Nat) (l : List Int) (x : Int) (ho : OwI base w A n c l) (hbase : base ≤ w.heap.size) (hn : n < 1099511627776) :
    Calls Try.prog 183 #[.slice A n c, .int .i64 x] w (RetP base w (putP l x)) := by
  have Hl := Lib.hid ho.len
  have hrd := ho.rd
  have hnc := ho.cap_.1
  by_cases hn0 : n = 0
  · subst hn0
    have hl0 : l = [] := List.eq_nil_of_length_eq_zero ho.len
    have HK := Lib.hid (show putK l x = 0 by rw [hl0]; rfl)
    have HNE := Lib.hid (show ¬ (0 < l.length ∧ l[0]?.getD 0 = x) from fun h => by have := h.1; rw [hl0] at this; simp at this)
    clear hl0
    rcases ho.2 with ⟨hv, _⟩ | ⟨g, cap, cur, hv, _⟩
    · simp only [Value.slice.injEq] at hv
      obtain ⟨rfl, _, rfl⟩ := hv
      go_enter Try.func183, Try.ntmps183
      go_wp2
      go_loop [5] (fun t => t = .int .i64 0) (fun t => (intOf t).toNat)
      case atStart => rfl
      case round =>
        subst hrel
        have HI := Lib.hid (show putP l x = l.take 0 ++ [x] ++ l.drop 0 by rw [putP, HK.out, if_neg HNE.out])
        have hr1 := hrd.take_ 0 (by omega)
        have htl : (l.take 0).length = 0 := by rw [List.length_take, Hl.out]; omega
        have hr2 : RdI w none 0 (l.drop 0) := hrd
        have o0 := OwI.lit_ (R := w) (w := w) (Below.refl _ _) [] (by simp [maxLen]) #[] rfl
        go_wp2_with (first
          | (at_builtin; (refine wpl_app_int w rfl _ _ rfl (some ⟨w.heap.size, 0, none⟩) 0 0 [] rfl o0 ?_ ?_ _ 0 _ (l.take 0) rfl hr1 ?_ (by omega) ?_); (focus (repeat (first | exact Below.refl _ _ | assumption | refine bExt ?_ _ | refine bAlloc ?_ _ | refine bDrewN ?_ _ | refine bDrew ?_ | refine bSet ?_ (by first | exact Nat.le_refl _ | omega | (simp; done) | (simp; omega)) _))); (focus (repeat (first | exact Below.refl _ _ | assumption | refine bExt ?_ _ | refine bAlloc ?_ _ | refine bDrewN ?_ _ | refine bDrew ?_ | refine bSet ?_ (by first | exact Nat.le_refl _ | omega | (simp; done) | (simp; omega)) _))); (focus (repeat (first | exact Below.refl _ _ | assumption | refine bExt ?_ _ | refine bAlloc ?_ _ | refine bDrewN ?_ _ | refine bDrew ?_ | refine bSet ?_ (by first | exact Nat.le_refl _ | omega | (simp; done) | (simp; omega)) _))); intro A1 c1 y1 o1 hg1 hd1; rw [Nat.zero_add, List.nil_append] at o1)
          | (at_builtin; (refine wpl_push_int w _ _ _ ?_ rfl _ _ rfl A1 0 c1 (l.take 0) rfl o1 ?_ ?_ rfl (by omega) ?_); (focus (first | rfl | (simp; done))); (focus (repeat (first | exact Below.refl _ _ | assumption | refine bExt ?_ _ | refine bAlloc ?_ _ | refine bDrewN ?_ _ | refine bDrew ?_ | refine bSet ?_ (by first | exact Nat.le_refl _ | omega | (simp; done) | (simp; omega)) _))); (focus (repeat (first | exact Below.refl _ _ | assumption | refine bExt ?_ _ | refine bAlloc ?_ _ | refine bDrewN ?_ _ | refine bDrew ?_ | refine bSet ?_ (by first | exact Nat.le_refl _ | omega | (simp; done) | (simp; omega)) _))); intro A2 c2 y2 o2 hg2 hd2)
          | (at_builtin; (refine wpl_app_int w rfl _ _ rfl A2 1 c2 (l.take 0 ++ [x]) rfl o2 ?_ ?_ _ _ _ (l.drop 0) rfl hr2 ?_ (by omega) ?_); (focus (repeat (first | exact Below.refl _ _ | assumption | refine bExt ?_ _ | refine bAlloc ?_ _ | refine bDrewN ?_ _ | refine bDrew ?_ | refine bSet ?_ (by first | exact Nat.le_refl _ | omega | (simp; done) | (simp; omega)) _))); (focus (repeat (first | exact Below.refl _ _ | assumption | refine bExt ?_ _ | refine bAlloc ?_ _ | refine bDrewN ?_ _ | refine bDrew ?_ | refine bSet ?_ (by first | exact Nat.le_refl _ | omega | (simp; done) | (simp; omega)) _))); (focus (repeat (first | exact Below.refl _ _ | assumption | refine bExt ?_ _ | refine bAlloc ?_ _ | refine bDrewN ?_ _ | refine bDrew ?_ | refine bSet ?_ (by first | exact Nat.le_refl _ | omega | (simp; done) | (simp; omega)) _))); intro A3 c3 y3 o3 hg3 hd3))
        go_ret
        refine ⟨_, _, _, y3, rfl, rfl, ?_⟩
        rw [HI.out]
        exact o3.mono hbase
    · simp only [Value.slice.injEq] at hv
      obtain ⟨rfl, _, rfl⟩ := hv
      by_cases hc0 : c = 0
      · subst hc0
        go_enter Try.func183, Try.ntmps183
        go_wp2
        go_loop [5] (fun t => t = .int .i64 0) (fun t => (intOf t).toNat)
        case atStart => rfl
        case round =>
          subst hrel
          have HI := Lib.hid (show putP l x = l.take 0 ++ [x] ++ l.drop 0 by rw [putP, HK.out, if_neg HNE.out])
          have hr1 := hrd.take_ 0 (by omega)
          have htl : (l.take 0).length = 0 := by rw [List.length_take, Hl.out]; omega
          have hr2 : RdI w (some ⟨g, 0, none⟩) 0 (l.drop 0) := hrd
          have o0 := OwI.lit_ (R := w) (w := w) (Below.refl _ _) [] (by simp [maxLen]) #[] rfl
          go_wp2_with (first
            | (at_builtin; (refine wpl_app_int w rfl _ _ rfl (some ⟨w.heap.size, 0, none⟩) 0 0 [] rfl o0 ?_ ?_ _ 0 _ (l.take 0) rfl hr1 ?_ (by omega) ?_); (focus (repeat (first | exact Below.refl _ _ | assumption | refine bExt ?_ _ | refine bAlloc ?_ _ | refine bDrewN ?_ _ | refine bDrew ?_ | refine bSet ?_ (by first | exact Nat.le_refl _ | omega | (simp; done) | (simp; omega)) _))); (focus (repeat (first | exact Below.refl _ _ | assumption | refine bExt ?_ _ | refine bAlloc ?_ _ | refine bDrewN ?_ _ | refine bDrew ?_ | refine bSet ?_ (by first | exact Nat.le_refl _ | omega | (simp; done) | (simp; omega)) _))); (focus (repeat (first | exact Below.refl _ _ | assumption | refine bExt ?_ _ | refine bAlloc ?_ _ | refine bDrewN ?_ _ | refine bDrew ?_ | refine bSet ?_ (by first | exact Nat.le_refl _ | omega | (simp; done) | (simp; omega)) _))); intro A1 c1 y1 o1 hg1 hd1; rw [Nat.zero_add, List.nil_append] at o1)
            | (at_builtin; (refine wpl_push_int w _ _ _ ?_ rfl _ _ rfl A1 0 c1 (l.take 0) rfl o1 ?_ ?_ rfl (by omega) ?_); (focus (first | rfl | (simp; done))); (focus (repeat (first | exact Below.refl _ _ | assumption | refine bExt ?_ _ | refine bAlloc ?_ _ | refine bDrewN ?_ _ | refine bDrew ?_ | refine bSet ?_ (by first | exact Nat.le_refl _ | omega | (simp; done) | (simp; omega)) _))); (focus (repeat (first | exact Below.refl _ _ | assumption | refine bExt ?_ _ | refine bAlloc ?_ _ | refine bDrewN ?_ _ | refine bDrew ?_ | refine bSet ?_ (by first | exact Nat.le_refl _ | omega | (simp; done) | (simp; omega)) _))); intro A2 c2 y2 o2 hg2 hd2)
            | (at_builtin; (refine wpl_app_int w rfl _ _ rfl A2 1 c2 (l.take 0 ++ [x]) rfl o2 ?_ ?_ _ _ _ (l.drop 0) rfl hr2 ?_ (by omega) ?_); (focus (repeat (first | exact Below.refl _ _ | assumption | refine bExt ?_ _ | refine bAlloc ?_ _ | refine bDrewN ?_ _ | refine bDrew ?_ | refine bSet ?_ (by first | exact Nat.le_refl _ | omega | (simp; done) | (simp; omega)) _))); (focus (repeat (first | exact Below.refl _ _ | assumption | refine bExt ?_ _ | refine bAlloc ?_ _ | refine bDrewN ?_ _ | refine bDrew ?_ | refine bSet ?_ (by first | exact Nat.le_refl _ | omega | (simp; done) | (simp; omega)) _))); (focus (repeat (first | exact Below.refl _ _ | assumption | refine bExt ?_ _ | refine bAlloc ?_ _ | refine bDrewN ?_ _ | refine bDrew ?_ | refine bSet ?_ (by first | exact Nat.le_refl _ | omega | (simp; done) | (simp; omega)) _))); intro A3 c3 y3 o3 hg3 hd3))
          go_ret
          refine ⟨_, _, _, y3, rfl, rfl, ?_⟩
          rw [HI.out]
          exact o3.mono hbase
      · have hc0' : ¬ ((c : Int) = 0) := by omega
        go_enter Try.func183, Try.ntmps183
        go_wp2
        go_loop [5] (fun t => t = .int .i64 0) (fun t => (intOf t).toNat)
        case atStart => rfl
        case round =>
          subst hrel
          have HI := Lib.hid (show putP l x = l.take 0 ++ [x] ++ l.drop 0 by rw [putP, HK.out, if_neg HNE.out])
          have hr1 := hrd.take_ 0 (by omega)
          have htl : (l.take 0).length = 0 := by rw [List.length_take, Hl.out]; omega
          have hr2 : RdI w (some ⟨g, 0, none⟩) 0 (l.drop 0) := hrd
          have o0 := OwI.lit_ (R := w) (w := w) (Below.refl _ _) [] (by simp [maxLen]) #[] rfl
          go_wp2_with (first
            | (at_builtin; (refine wpl_app_int w rfl _ _ rfl (some ⟨w.heap.size, 0, none⟩) 0 0 [] rfl o0 ?_ ?_ _ 0 _ (l.take 0) rfl hr1 ?_ (by omega) ?_); (focus (repeat (first | exact Below.refl _ _ | assumption | refine bExt ?_ _ | refine bAlloc ?_ _ | refine bDrewN ?_ _ | refine bDrew ?_ | refine bSet ?_ (by first | exact Nat.le_refl _ | omega | (simp; done) | (simp; omega)) _))); (focus (repeat (first | exact Below.refl _ _ | assumption | refine bExt ?_ _ | refine bAlloc ?_ _ | refine bDrewN ?_ _ | refine bDrew ?_ | refine bSet ?_ (by first | exact Nat.le_refl _ | omega | (simp; done) | (simp; omega)) _))); (focus (repeat (first | exact Below.refl _ _ | assumption | refine bExt ?_ _ | refine bAlloc ?_ _ | refine bDrewN ?_ _ | refine bDrew ?_ | refine bSet ?_ (by first | exact Nat.le_refl _ | omega | (simp; done) | (simp; omega)) _))); intro A1 c1 y1 o1 hg1 hd1; rw [Nat.zero_add, List.nil_append] at o1)
            | (at_builtin; (refine wpl_push_int w _ _ _ ?_ rfl _ _ rfl A1 0 c1 (l.take 0) rfl o1 ?_ ?_ rfl (by omega) ?_); (focus (first | rfl | (simp; done))); (focus (repeat (first | exact Below.refl _ _ | assumption | refine bExt ?_ _ | refine bAlloc ?_ _ | refine bDrewN ?_ _ | refine bDrew ?_ | refine bSet ?_ (by first | exact Nat.le_refl _ | omega | (simp; done) | (simp; omega)) _))); (focus (repeat (first | exact Below.refl _ _ | assumption | refine bExt ?_ _ | refine bAlloc ?_ _ | refine bDrewN ?_ _ | refine bDrew ?_ | refine bSet ?_ (by first | exact Nat.le_refl _ | omega | (simp; done) | (simp; omega)) _))); intro A2 c2 y2 o2 hg2 hd2)
            | (at_builtin; (refine wpl_app_int w rfl _ _ rfl A2 1 c2 (l.take 0 ++ [x]) rfl o2 ?_ ?_ _ _ _ (l.drop 0) rfl hr2 ?_ (by omega) ?_); (focus (repeat (first | exact Below.refl _ _ | assumption | refine bExt ?_ _ | refine bAlloc ?_ _ | refine bDrewN ?_ _ | refine bDrew ?_ | refine bSet ?_ (by first | exact Nat.le_refl _ | omega | (simp; done) | (simp; omega)) _))); (focus (repeat (first | exact Below.refl _ _ | assumption | refine bExt ?_ _ | refine bAlloc ?_ _ | refine bDrewN ?_ _ | refine bDrew ?_ | refine bSet ?_ (by first | exact Nat.le_refl _ | omega | (simp; done) | (simp; omega)) _))); (focus (repeat (first | exact Below.refl _ _ | assumption | refine bExt ?_ _ | refine bAlloc ?_ _ | refine bDrewN ?_ _ | refine bDrew ?_ | refine bSet ?_ (by first | exact Nat.le_refl _ | omega | (simp; done) | (simp; omega)) _))); intro A3 c3 y3 o3 hg3 hd3))
          go_ret
          refine ⟨_, _, _, y3, rfl, rfl, ?_⟩
          rw [HI.out]
          exact o3.mono hbase
  · obtain ⟨g, rfl, hgb, hgl⟩ := ho.form_ (by omega)
    go_enter Try.func183, Try.ntmps183
    go_wp2
    go_loop [5] (fun t => ∃ k : Nat, k ≤ n ∧ t = .int .i64 k ∧ (∀ j, j < k → Hid (l[j]?.getD 0 < x))) (fun t => n - (intOf t).toNat)
    case atStart => exact ⟨0, by omega, rfl, fun j hj => by omega⟩
    case round =>
      obtain ⟨k, hk, rfl, hlow⟩ := hrel
      by_cases hlt : k < n
      · have hck := ho.cell_ k hlt
        obtain ⟨z, hz⟩ : ∃ z, l[k]?.getD 0 = z := ⟨_, rfl⟩
        rw [hz] at hck
        have HZ := Lib.hid hz
        clear hz
        by_cases hzx : z < x
        · have Hzx := Lib.hid hzx
          go_wp2
          go_round
          case rel => exact ⟨k + 1, by omega, by go_num, fun j hj => by
            by_cases e : j = k
            · subst e; show _ < _; rw [HZ.out]; exact Hzx.out
            · exact hlow j (by omega)⟩
          case measure => simp [intOf]; omega
        · have HK := Lib.hid (putK_eq (l := l) (x := x) (k := k) (by rw [Hl.out]; exact hk) hlow (.inr (by rw [HZ.out]; exact hzx)))
          by_cases hez : z = x
          · subst hez
            have HI := Lib.hid (show putP l z = l by rw [putP, HK.out, if_pos ⟨by rw [Hl.out]; exact hlt, HZ.out⟩])
            go_wp2
            go_ret
            rw [HI.out]
            exact ho.retP
          · have hez' : (z == x) = false := by simpa using hez
            have HNE := Lib.hid (show ¬ (k < l.length ∧ l[k]?.getD 0 = x) from fun h => hez (by rw [← HZ.out]; exact h.2))
            have hkc : k < c := by omega
            have hkc' : (k : Int) ≤ c := by omega
            have hkn' : (k : Int) ≤ n := by omega
            have hck2 : ¬ (c = k) := by omega
            have HI := Lib.hid (show putP l x = l.take k ++ [x] ++ l.drop k by rw [putP, HK.out, if_neg HNE.out])
            have hr1 := hrd.take_ k (by omega)
            have htl : (l.take k).length = k := by rw [List.length_take, Hl.out]; omega
            have hr2 := hrd.drop_ k (by omega)
            rw [Nat.zero_add] at hr2
            have o0 := OwI.lit_ (R := w) (w := w) (Below.refl _ _) [] (by simp [maxLen]) #[] rfl
            go_wp2_with (first
              | (at_builtin; (refine wpl_app_int w rfl _ _ rfl (some ⟨w.heap.size, 0, none⟩) 0 0 [] rfl o0 ?_ ?_ _ k _ (l.take k) rfl hr1 ?_ (by omega) ?_); (focus (repeat (first | exact Below.refl _ _ | assumption | refine bExt ?_ _ | refine bAlloc ?_ _ | refine bDrewN ?_ _ | refine bDrew ?_ | refine bSet ?_ (by first | exact Nat.le_refl _ | omega | (simp; done) | (simp; omega)) _))); (focus (repeat (first | exact Below.refl _ _ | assumption | refine bExt ?_ _ | refine bAlloc ?_ _ | refine bDrewN ?_ _ | refine bDrew ?_ | refine bSet ?_ (by first | exact Nat.le_refl _ | omega | (simp; done) | (simp; omega)) _))); (focus (repeat (first | exact Below.refl _ _ | assumption | refine bExt ?_ _ | refine bAlloc ?_ _ | refine bDrewN ?_ _ | refine bDrew ?_ | refine bSet ?_ (by first | exact Nat.le_refl _ | omega | (simp; done) | (simp; omega)) _))); intro A1 c1 y1 o1 hg1 hd1; rw [Nat.zero_add, List.nil_append] at o1)
              | (at_builtin; (refine wpl_push_int w _ _ _ ?_ rfl _ _ rfl A1 k c1 (l.take k) rfl o1 ?_ ?_ rfl (by omega) ?_); (focus (first | rfl | (simp; done))); (focus (repeat (first | exact Below.refl _ _ | assumption | refine bExt ?_ _ | refine bAlloc ?_ _ | refine bDrewN ?_ _ | refine bDrew ?_ | refine bSet ?_ (by first | exact Nat.le_refl _ | omega | (simp; done) | (simp; omega)) _))); (focus (repeat (first | exact Below.refl _ _ | assumption | refine bExt ?_ _ | refine bAlloc ?_ _ | refine bDrewN ?_ _ | refine bDrew ?_ | refine bSet ?_ (by first | exact Nat.le_refl _ | omega | (simp; done) | (simp; omega)) _))); intro A2 c2 y2 o2 hg2 hd2)
              | (at_builtin; (refine wpl_app_int w rfl _ _ rfl A2 (k + 1) c2 (l.take k ++ [x]) rfl o2 ?_ ?_ _ _ _ (l.drop k) rfl hr2 ?_ (by omega) ?_); (focus (repeat (first | exact Below.refl _ _ | assumption | refine bExt ?_ _ | refine bAlloc ?_ _ | refine bDrewN ?_ _ | refine bDrew ?_ | refine bSet ?_ (by first | exact Nat.le_refl _ | omega | (simp; done) | (simp; omega)) _))); (focus (repeat (first | exact Below.refl _ _ | assumption | refine bExt ?_ _ | refine bAlloc ?_ _ | refine bDrewN ?_ _ | refine bDrew ?_ | refine bSet ?_ (by first | exact Nat.le_refl _ | omega | (simp; done) | (simp; omega)) _))); (focus (repeat (first | exact Below.refl _ _ | assumption | refine bExt ?_ _ | refine bAlloc ?_ _ | refine bDrewN ?_ _ | refine bDrew ?_ | refine bSet ?_ (by first | exact Nat.le_refl _ | omega | (simp; done) | (simp; omega)) _))); intro A3 c3 y3 o3 hg3 hd3))
            go_ret
            refine ⟨_, _, _, y3, rfl, rfl, ?_⟩
            rw [HI.out]
            exact o3.mono hbase
      · have hkn : k = n := by omega
        subst hkn
        have HK := Lib.hid (putK_eq (l := l) (x := x) (k := k) (by rw [Hl.out]; exact Nat.le_refl _) hlow (.inl Hl.out.symm))
        have HNE := Lib.hid (show ¬ (k < l.length ∧ l[k]?.getD 0 = x) from fun h => by have := h.1; rw [Hl.out] at this; omega)
        have hkc' : (k : Int) ≤ c := by omega
        by_cases hck2 : c = k
        · subst hck2
          have HI := Lib.hid (show putP l x = l.take c ++ [x] ++ l.drop c by rw [putP, HK.out, if_neg HNE.out])
          have hr1 := hrd.take_ c (by omega)
          have htl : (l.take c).length = c := by rw [List.length_take, Hl.out]; omega
          have hr2 : RdI w (some ⟨g, 0, none⟩) 0 (l.drop c) := by rw [List.drop_of_length_le (by rw [Hl.out]; exact Nat.le_refl _)]; exact RdI.nil_
          have o0 := OwI.lit_ (R := w) (w := w) (Below.refl _ _) [] (by simp [maxLen]) #[] rfl
          go_wp2_with (first
            | (at_builtin; (refine wpl_app_int w rfl _ _ rfl (some ⟨w.heap.size, 0, none⟩) 0 0 [] rfl o0 ?_ ?_ _ c _ (l.take c) rfl hr1 ?_ (by omega) ?_); (focus (repeat (first | exact Below.refl _ _ | assumption | refine bExt ?_ _ | refine bAlloc ?_ _ | refine bDrewN ?_ _ | refine bDrew ?_ | refine bSet ?_ (by first | exact Nat.le_refl _ | omega | (simp; done) | (simp; omega)) _))); (focus (repeat (first | exact Below.refl _ _ | assumption | refine bExt ?_ _ | refine bAlloc ?_ _ | refine bDrewN ?_ _ | refine bDrew ?_ | refine bSet ?_ (by first | exact Nat.le_refl _ | omega | (simp; done) | (simp; omega)) _))); (focus (repeat (first | exact Below.refl _ _ | assumption | refine bExt ?_ _ | refine bAlloc ?_ _ | refine bDrewN ?_ _ | refine bDrew ?_ | refine bSet ?_ (by first | exact Nat.le_refl _ | omega | (simp; done) | (simp; omega)) _))); intro A1 c1 y1 o1 hg1 hd1; rw [Nat.zero_add, List.nil_append] at o1)
            | (at_builtin; (refine wpl_push_int w _ _ _ ?_ rfl _ _ rfl A1 c c1 (l.take c) rfl o1 ?_ ?_ rfl (by omega) ?_); (focus (first | rfl | (simp; done))); (focus (repeat (first | exact Below.refl _ _ | assumption | refine bExt ?_ _ | refine bAlloc ?_ _ | refine bDrewN ?_ _ | refine bDrew ?_ | refine bSet ?_ (by first | exact Nat.le_refl _ | omega | (simp; done) | (simp; omega)) _))); (focus (repeat (first | exact Below.refl _ _ | assumption | refine bExt ?_ _ | refine bAlloc ?_ _ | refine bDrewN ?_ _ | refine bDrew ?_ | refine bSet ?_ (by first | exact Nat.le_refl _ | omega | (simp; done) | (simp; omega)) _))); intro A2 c2 y2 o2 hg2 hd2)
            | (at_builtin; (refine wpl_app_int w rfl _ _ rfl A2 (c + 1) c2 (l.take c ++ [x]) rfl o2 ?_ ?_ _ _ _ (l.drop c) rfl hr2 ?_ (by omega) ?_); (focus (repeat (first | exact Below.refl _ _ | assumption | refine bExt ?_ _ | refine bAlloc ?_ _ | refine bDrewN ?_ _ | refine bDrew ?_ | refine bSet ?_ (by first | exact Nat.le_refl _ | omega | (simp; done) | (simp; omega)) _))); (focus (repeat (first | exact Below.refl _ _ | assumption | refine bExt ?_ _ | refine bAlloc ?_ _ | refine bDrewN ?_ _ | refine bDrew ?_ | refine bSet ?_ (by first | exact Nat.le_refl _ | omega | (simp; done) | (simp; omega)) _))); (focus (repeat (first | exact Below.refl _ _ | assumption | refine bExt ?_ _ | refine bAlloc ?_ _ | refine bDrewN ?_ _ | refine bDrew ?_ | refine bSet ?_ (by first | exact Nat.le_refl _ | omega | (simp; done) | (simp; omega)) _))); intro A3 c3 y3 o3 hg3 hd3))
          go_ret
          refine ⟨_, _, _, y3, rfl, rfl, ?_⟩
          rw [HI.out]
          exact o3.mono hbase
        · have hkc2 : ¬ ((c : Int) = k) := by omega
          have HI := Lib.hid (show putP l x = l.take k ++ [x] ++ l.drop k by rw [putP, HK.out, if_neg HNE.out])
          have hr1 := hrd.take_ k (by omega)
          have htl : (l.take k).length = k := by rw [List.length_take, Hl.out]; omega
          have hr2 : RdI w (some ⟨g, k, none⟩) 0 (l.drop k) := by rw [List.drop_of_length_le (by rw [Hl.out]; exact Nat.le_refl _)]; exact RdI.nil_
          have o0 := OwI.lit_ (R := w) (w := w) (Below.refl _ _) [] (by simp [maxLen]) #[] rfl
          go_wp2_with (first
            | (at_builtin; (refine wpl_app_int w rfl _ _ rfl (some ⟨w.heap.size, 0, none⟩) 0 0 [] rfl o0 ?_ ?_ _ k _ (l.take k) rfl hr1 ?_ (by omega) ?_); (focus (repeat (first | exact Below.refl _ _ | assumption | refine bExt ?_ _ | refine bAlloc ?_ _ | refine bDrewN ?_ _ | refine bDrew ?_ | refine bSet ?_ (by first | exact Nat.le_refl _ | omega | (simp; done) | (simp; omega)) _))); (focus (repeat (first | exact Below.refl _ _ | assumption | refine bExt ?_ _ | refine bAlloc ?_ _ | refine bDrewN ?_ _ | refine bDrew ?_ | refine bSet ?_ (by first | exact Nat.le_refl _ | omega | (simp; done) | (simp; omega)) _))); (focus (repeat (first | exact Below.refl _ _ | assumption | refine bExt ?_ _ | refine bAlloc ?_ _ | refine bDrewN ?_ _ | refine bDrew ?_ | refine bSet ?_ (by first | exact Nat.le_refl _ | omega | (simp; done) | (simp; omega)) _))); intro A1 c1 y1 o1 hg1 hd1; rw [Nat.zero_add, List.nil_append] at o1)
            | (at_builtin; (refine wpl_push_int w _ _ _ ?_ rfl _ _ rfl A1 k c1 (l.take k) rfl o1 ?_ ?_ rfl (by omega) ?_); (focus (first | rfl | (simp; done))); (focus (repeat (first | exact Below.refl _ _ | assumption | refine bExt ?_ _ | refine bAlloc ?_ _ | refine bDrewN ?_ _ | refine bDrew ?_ | refine bSet ?_ (by first | exact Nat.le_refl _ | omega | (simp; done) | (simp; omega)) _))); (focus (repeat (first | exact Below.refl _ _ | assumption | refine bExt ?_ _ | refine bAlloc ?_ _ | refine bDrewN ?_ _ | refine bDrew ?_ | refine bSet ?_ (by first | exact Nat.le_refl _ | omega | (simp; done) | (simp; omega)) _))); intro A2 c2 y2 o2 hg2 hd2)
            | (at_builtin; (refine wpl_app_int w rfl _ _ rfl A2 (k + 1) c2 (l.take k ++ [x]) rfl o2 ?_ ?_ _ _ _ (l.drop k) rfl hr2 ?_ (by omega) ?_); (focus (repeat (first | exact Below.refl _ _ | assumption | refine bExt ?_ _ | refine bAlloc ?_ _ | refine bDrewN ?_ _ | refine bDrew ?_ | refine bSet ?_ (by first | exact Nat.le_refl _ | omega | (simp; done) | (simp; omega)) _))); (focus (repeat (first | exact Below.refl _ _ | assumption | refine bExt ?_ _ | refine bAlloc ?_ _ | refine bDrewN ?_ _ | refine bDrew ?_ | refine bSet ?_ (by first | exact Nat.le_refl _ | omega | (simp; done) | (simp; omega)) _))); (focus (repeat (first | exact Below.refl _ _ | assumption | refine bExt ?_ _ | refine bAlloc ?_ _ | refine bDrewN ?_ _ | refine bDrew ?_ | refine bSet ?_ (by first | exact Nat.le_refl _ | omega | (simp; done) | (simp; omega)) _))); intro A3 c3 y3 o3 hg3 hd3))
          go_ret
          refine ⟨_, _, _, y3, rfl, rfl, ?_⟩
          rw [HI.out]
          exact o3.mono hbase
end Go.Proofs.Ytppcmnolkbobfaa
