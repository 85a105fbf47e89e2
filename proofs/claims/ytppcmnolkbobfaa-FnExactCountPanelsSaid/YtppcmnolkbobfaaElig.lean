/- Contracts of EligibleFor, in the program and in the reference. Conditions: lengths below 2^40. -/
import Derived.Test.YtppcmnolkbobfaaPanel
import Derived.Test.YtppcmnolkbobfaaPut
set_option linter.unusedVariables false
set_option linter.unusedSimpArgs false
set_option maxRecDepth 100000
namespace Go.Proofs.Ytppcmnolkbobfaa
open Go.ChangeShapes Go.WideShapes Go.ChangeAt Go.RowKit
theorem containsInts_any (w : World) (A : Option Addr) (n c : Nat) (l : List Int) (x : Int) (ha : RdI w A n l) (hn : n ≤ 1099511627776) :
    Calls Try.prog 188 #[.slice A n c, .int .i64 x] w fun e w' => e = .returned (.bool (hasB l x)) ∧ w = w' := by
  have hl := ha.len
  have e : hasB l x = l.contains x := by unfold hasB; rw [List.contains_eq_any_beq]; congr 1; funext y; exact Bool.beq_comm
  rw [e]
  by_cases h0 : 0 < n
  · obtain ⟨b, off, rfl, hb, hc⟩ := ha.open_ h0
    refine (Try.slices_Contains_int b off n c l x w (by omega) (by omega) (fun j hj => hc j (by omega))).mono fun e w' h => ?_
    rw [List.take_of_length_le (by omega)] at h
    exact ⟨h.1, h.2.symm⟩
  · obtain rfl : n = 0 := by omega
    have hl0 : l = [] := List.eq_nil_of_length_eq_zero hl
    subst hl0
    refine (Try.slices_Contains_int_empty A c x w).mono fun e w' h => ?_
    exact ⟨h.1, h.2.symm⟩
theorem conf_eq (l : List Int) : (risB l 0 20 && !hasB l 0) = risB l 1 20 := by
  rw [Bool.eq_iff_iff]
  simp only [Bool.and_eq_true, Bool.not_eq_true']
  constructor
  · rintro ⟨h1, h2⟩
    refine List.all_eq_true.2 fun i hi => ?_
    have hi' : i < l.length := by simpa using hi
    have h3 := risB_at h1 i hi'
    simp only [risAt, Bool.and_eq_true] at h3 ⊢
    refine ⟨inB_iff.2 ?_, h3.2⟩
    have h4 := inB_iff.1 h3.1
    have h5 : l[i]?.getD 0 ≠ 0 := fun e => by
      have : hasB l 0 = true := hasB_iff.2 (by have := getD_mem 0 l i hi'; rw [e] at this; exact this)
      rw [h2] at this; cases this
    omega
  · intro h1
    refine ⟨List.all_eq_true.2 fun i hi => ?_, ?_⟩
    · have h3 := risB_at h1 i (by simpa using hi)
      simp only [risAt, Bool.and_eq_true] at h3 ⊢
      have h4 := inB_iff.1 h3.1
      exact ⟨inB_iff.2 (by omega), h3.2⟩
    · rw [Bool.eq_false_iff]
      intro h
      obtain ⟨i, hi, e⟩ := List.mem_iff_getElem.1 (hasB_iff.1 h)
      have h3 := risB_at h1 i hi
      simp only [risAt, Bool.and_eq_true] at h3
      have h4 := inB_iff.1 h3.1
      simp [hi, e] at h4
theorem areConflicts_any (w : World) (A : Option Addr) (n c : Nat) (l : List Int) (ha : RdI w A n l) (hn : n ≤ 1099511627776) :
    Calls Try.prog 186 #[.slice A n c] w fun e w' => e = .returned (.bool (risB l 1 20)) ∧ w = w' := by
  rw [← conf_eq]
  have c1 := isIncreasing_any w A n c l 21 ha hn (by omega) (by omega)
  rw [show (21 : Int) - 1 = 20 from rfl] at c1
  cases h1 : risB l 0 20
  · rw [h1] at c1
    go_enter Try.func186, Try.ntmps186
    go_wp2_with (first | (go_at_call 199; ((with_reducible refine (c1).mono ?_); rintro e w' ⟨rfl, rfl⟩)) | (go_at_call 188; ((with_reducible refine (containsInts_any _ _ _ _ _ _ ha hn).mono ?_); rintro e w' ⟨rfl, rfl⟩)))
    go_ret
    exact ⟨rfl, rfl⟩
  · rw [h1] at c1
    go_enter Try.func186, Try.ntmps186
    go_wp2_with (first | (go_at_call 199; ((with_reducible refine (c1).mono ?_); rintro e w' ⟨rfl, rfl⟩)) | (go_at_call 188; ((with_reducible refine (containsInts_any _ _ _ _ _ _ ha hn).mono ?_); rintro e w' ⟨rfl, rfl⟩)))
    go_ret
    exact ⟨rfl, rfl⟩
def askB (l : List T3) (cl : List Int) (v : Int) : Bool := offsB l && risB cl 1 20 && inB v 1 3
def canB (l : List T3) (cl : List Int) (v q : Int) : Bool := askB l cl v && inB q 1 9
theorem askB_of {l : List T3} {cl : List Int} {v : Int} (h : askB l cl v = true) : offsB l = true ∧ risB cl 1 20 = true ∧ inB v 1 3 = true := by
  simp only [askB, Bool.and_eq_true] at h; exact ⟨h.1.1, h.1.2, h.2⟩
theorem paAsked_any (w : World) (A : Option Addr) (n c : Nat) (l : List T3) (B : Option Addr) (m d : Nat) (cl : List Int) (ha : Rd3 w A n l) (hb : RdI w B m cl) (hn : n ≤ 1099511627776) (hm : m ≤ 1099511627776) (v : Int) :
    Calls Try.prog 142 #[.slice A n c, .slice B m d, .int .i64 v] w fun e w' => e = .returned (.bool (askB l cl v)) ∧ ∃ x, w' = ext w x := by
  unfold askB
  cases h1 : offsB l <;> cases h2 : risB cl 1 20
  all_goals
    go_enter Try.func142, Try.ntmps142
    go_wp2_with (first | (go_at_call 181; ((with_reducible refine (paOfficials_any _ _ _ _ _ ha hn).mono ?_); rintro e w' ⟨rfl, x, rfl⟩)) | (go_at_call 182; ((with_reducible refine (l1Rising_any _ _ _ _ _ _ _ (hb.below (by repeat (first | exact Below.refl _ _ | assumption | refine bExt ?_ _ | refine bAlloc ?_ _ | refine bDrewN ?_ _ | refine bDrew ?_ | refine bSet ?_ (by first | exact Nat.le_refl _ | omega | (simp; done) | (simp; omega)) _))) hm).mono ?_); rintro e w' ⟨rfl, rfl⟩)) | (go_at_call 98; ((with_reducible refine (l1In_any _ _ _ _).mono ?_); rintro e w' ⟨rfl, rfl⟩)))
    go_ret
    exact ⟨rfl, ext_ex (by repeat (first | exact Below.refl _ _ | assumption | refine bExt ?_ _ | refine bAlloc ?_ _ | refine bDrewN ?_ _ | refine bDrew ?_ | refine bSet ?_ (by first | exact Nat.le_refl _ | omega | (simp; done) | (simp; omega)) _))⟩
theorem paMost_any (q : Int) (w : World) : Calls Try.prog 143 #[.int .i64 q] w fun e w' => e = .returned (.bool (inB q 1 9)) ∧ w = w' := by
  go_enter Try.func143, Try.ntmps143
  go_wp2_with (go_at_call 98; ((with_reducible refine (l1In_any _ _ _ _).mono ?_); rintro e w' ⟨rfl, rfl⟩))
  go_ret
  exact ⟨rfl, rfl⟩
theorem isPanelSize_any (q : Int) (w : World) : Calls Try.prog 148 #[.int .i64 q] w fun e w' => e = .returned (.bool (inB q 1 9)) ∧ w = w' := by
  go_enter Try.func148, Try.ntmps148
  go_wp2_with (go_at_call 95; ((with_reducible refine (within_any _ _ _ _).mono ?_); rintro e w' ⟨rfl, rfl⟩))
  go_ret
  exact ⟨rfl, rfl⟩
set_option maxHeartbeats 1000000 in
theorem canPanel_any (w : World) (A : Option Addr) (n c : Nat) (l : List T3) (B : Option Addr) (m d : Nat) (cl : List Int) (ha : Rd3 w A n l) (hb : RdI w B m cl) (hn : n ≤ 1099511627776) (hm : m ≤ 1099511627776) (hnc : n ≤ c) (v q : Int) :
    Calls Try.prog 147 #[.slice A n c, .slice B m d, .int .i64 v, .int .i64 q] w fun e w' => e = .returned (.bool (canB l cl v q)) ∧ ∃ x, w' = ext w x := by
  unfold canB askB
  cases h1 : offsB l <;> cases h2 : risB cl 1 20 <;> cases h3 : inB v 1 3
  all_goals
    go_enter Try.func147, Try.ntmps147
    go_wp2_with (first | (go_at_call 185; ((with_reducible refine (implAreOfficials_any _ _ _ _ _ ha hn hnc).mono ?_); rintro e w' ⟨rfl, x, rfl⟩)) | (go_at_call 186; ((with_reducible refine (areConflicts_any _ _ _ _ _ (hb.below (by repeat (first | exact Below.refl _ _ | assumption | refine bExt ?_ _ | refine bAlloc ?_ _ | refine bDrewN ?_ _ | refine bDrew ?_ | refine bSet ?_ (by first | exact Nat.le_refl _ | omega | (simp; done) | (simp; omega)) _))) hm).mono ?_); rintro e w' ⟨rfl, rfl⟩)) | (go_at_call 95; ((with_reducible refine (within_any _ _ _ _).mono ?_); rintro e w' ⟨rfl, rfl⟩)))
    go_ret
    exact ⟨rfl, ext_ex (by repeat (first | exact Below.refl _ _ | assumption | refine bExt ?_ _ | refine bAlloc ?_ _ | refine bDrewN ?_ _ | refine bDrew ?_ | refine bSet ?_ (by first | exact Nat.le_refl _ | omega | (simp; done) | (simp; omega)) _))⟩
/-- Whether an official is eligible; the numbers of those who are, as they come and in order. -/
def elP (cl : List Int) (v : Int) (p : T3) : Bool := !hasB cl p.2.1 && decide (v ≤ p.2.2)
def elN (l : List T3) (cl : List Int) (v : Int) : List Int := (l.filter (elP cl v)).map (·.1)
def eligL (l : List T3) (cl : List Int) (v : Int) : List Int := sortI (elN l cl v)
theorem elN_yes {l : List T3} {cl : List Int} {v : Int} {k : Nat} {p : T3} (hk : k < l.length) (hp : l[k]?.getD z3 = p) (h : elP cl v p = true) : elN (l.take (k + 1)) cl v = elN (l.take k) cl v ++ [p.1] := by
  unfold elN; rw [take_succ_getD z3 l k hk, hp, List.filter_append]; simp [h]
theorem elN_no {l : List T3} {cl : List Int} {v : Int} {k : Nat} {p : T3} (hk : k < l.length) (hp : l[k]?.getD z3 = p) (h : elP cl v p = false) : elN (l.take (k + 1)) cl v = elN (l.take k) cl v := by
  unfold elN; rw [take_succ_getD z3 l k hk, hp, List.filter_append]; simp [h]
theorem elN_len (l : List T3) (cl : List Int) (v : Int) : (elN l cl v).length ≤ l.length := by
  unfold elN; rw [List.length_map]; exact List.length_filter_le _ _
theorem elN_take {l : List T3} {cl : List Int} {v : Int} {k n : Nat} (hl : l.length = n) (h : n ≤ k) : elN (l.take k) cl v = elN l cl v := by rw [List.take_of_length_le (by omega)]
theorem offs_nodup {l : List T3} (h : offsB l = true) : (l.map (·.1)).Nodup := by
  rw [List.nodup_iff_pairwise_ne, List.pairwise_iff_getElem]
  intro i j hi hj hij
  simp only [List.length_map] at hi hj
  simp only [offsB, Bool.and_eq_true] at h
  have h1 := List.all_eq_true.1 h.1 j (by simpa using hj)
  rw [offOkAt_eq rfl] at h1
  simp only [Bool.and_eq_true, Bool.not_eq_true'] at h1
  have h2 := h1.1.1.2
  intro e
  have : metB (l.take j) (l[j]?.getD z3).1 = true := List.any_eq_true.2 ⟨l[i], by
    rw [List.mem_take_iff_getElem]; exact ⟨i, by omega, rfl⟩, by simpa [hj] using e⟩
  rw [h2] at this; cases this
theorem elN_nodup {l : List T3} (cl : List Int) (v : Int) (h : offsB l = true) : (elN l cl v).Nodup :=
  List.Sublist.nodup (List.Sublist.map (fun p : T3 => p.1) (List.filter_sublist (p := elP cl v) (l := l))) (offs_nodup h)
theorem eligL_sset {l : List T3} (cl : List Int) (v : Int) (h : offsB l = true) : ssetOf (elN l cl v) = eligL l cl v := sset_nodup (elN_nodup cl v h)
theorem eligL_len (l : List T3) (cl : List Int) (v : Int) : (eligL l cl v).length ≤ l.length := by rw [eligL, sortI_len]; exact elN_len l cl v
set_option maxHeartbeats 1000000 in
theorem paEligible_any (w : World) (A : Option Addr) (n c : Nat) (l : List T3) (B : Option Addr) (m d : Nat) (cl : List Int) (ha : Rd3 w A n l) (hb : RdI w B m cl) (hn : n ≤ 1099511627776) (hm : m ≤ 1099511627776) (v : Int) (hof : offsB l = true) (hn24 : n ≤ 24) :
    Calls Try.prog 144 #[.slice A n c, .slice B m d, .int .i64 v] w (RetI w (eligL l cl v)) := by
  have Hl := Lib.hid ha.len
  have HE := Lib.hid (eligL_sset cl v hof)
  go_enter Try.func144, Try.ntmps144
  go_wp2
  go_loopw [7, 9, 12] (fun u _ i wr => ∃ (k : Nat) (D : Option Addr) (z q : Nat) (x : World), k ≤ n ∧ i = .int .i64 k ∧ u = .slice D z q ∧ wr = ext w x ∧ z ≤ k ∧ OwI w.heap.size (ext w x) D z q (ssetOf (elN (l.take k) cl v))) (fun _ _ i _ => n - (intOf i).toNat)
  case atStart => exact ⟨0, none, 0, 0, _, by omega, rfl, rfl, ext_self w, by omega, OwI.nil_⟩
  case round =>
    obtain ⟨k, D, z, q, x, hk, rfl, rfl, rfl, hzk, ho⟩ := hrel
    by_cases hlt : k < n
    · obtain ⟨b, off, rfl, hb0, hc0, hc1, hc2⟩ := ha.at_ k hlt
      obtain ⟨p, hp⟩ : ∃ p, l[k]?.getD z3 = p := ⟨_, rfl⟩
      rw [hp] at hc0 hc1 hc2
      have HY := Lib.hid (fun h => elN_yes (cl := cl) (v := v) (by rw [Hl.out]; exact hlt) hp h)
      have HN := Lib.hid (fun h => elN_no (cl := cl) (v := v) (by rw [Hl.out]; exact hlt) hp h)
      clear hp
      have hlen := sset_len (elN (l.take k) cl v ++ [p.1])
      rw [sset_append] at hlen
      have hlen2 := elN_len (l.take k) cl v
      have hlen3 : (l.take k).length = k := by rw [List.length_take, Hl.out]; omega
      have Hlen := Lib.hid (show (putP (ssetOf (elN (l.take k) cl v)) p.1).length ≤ k + 1 by simp only [List.length_append, List.length_singleton] at hlen; omega)
      clear hlen hlen2 hlen3
      cases h1 : hasB cl p.2.1
      · by_cases h2 : v ≤ p.2.2
        · have HS := Lib.hid (show ssetOf (elN (l.take (k + 1)) cl v) = putP (ssetOf (elN (l.take k) cl v)) p.1 by rw [HY.out (by simp [elP, h1, h2]), sset_append])
          go_wp2_with (first | (go_at_call 180; ((with_reducible refine (l1Has_any _ _ _ _ _ _ (hb.below (by repeat (first | exact Below.refl _ _ | assumption | refine bExt ?_ _ | refine bAlloc ?_ _ | refine bDrewN ?_ _ | refine bDrew ?_ | refine bSet ?_ (by first | exact Nat.le_refl _ | omega | (simp; done) | (simp; omega)) _))) hm).mono ?_); rintro e w' ⟨rfl, rfl⟩)) | (go_at_call 183; ((with_reducible refine (l1Put_any _ w.heap.size _ _ _ _ _ (ho.below (by repeat (first | exact Below.refl _ _ | assumption | refine bExt ?_ _ | refine bAlloc ?_ _ | refine bDrewN ?_ _ | refine bDrew ?_ | refine bSet ?_ (by first | exact Nat.le_refl _ | omega | (simp; done) | (simp; omega)) _))) (base_le (by repeat (first | exact Below.refl _ _ | assumption | refine bExt ?_ _ | refine bAlloc ?_ _ | refine bDrewN ?_ _ | refine bDrew ?_ | refine bSet ?_ (by first | exact Nat.le_refl _ | omega | (simp; done) | (simp; omega)) _))) (by omega)).mono ?_); rintro e w' ⟨A1, n1, c1, x1, rfl, rfl, o1⟩)))
          obtain ⟨y, hy⟩ := ext_ex (show Below w.heap.size w (ext ((ext w x).alloc (.cells #[.int .i64 p.1, .int .i64 p.2.1, .int .i64 p.2.2] 133)) x1) from by repeat (first | exact Below.refl _ _ | assumption | refine bExt ?_ _ | refine bAlloc ?_ _ | refine bDrewN ?_ _ | refine bDrew ?_ | refine bSet ?_ (by first | exact Nat.le_refl _ | omega | (simp; done) | (simp; omega)) _))
          have hz1 : n1 ≤ k + 1 := by have := o1.len; have := Hlen.out; omega
          rw [hy] at o1
          go_roundw
          case rel => exact ⟨k + 1, A1, n1, c1, y, by omega, by go_num, rfl, hy, hz1, by rw [HS.out]; exact o1⟩
          case measure => simp [intOf]; omega
        · have HS := Lib.hid (HN.out (by simp [elP, h2]))
          go_wp2_with (first | (go_at_call 180; ((with_reducible refine (l1Has_any _ _ _ _ _ _ (hb.below (by repeat (first | exact Below.refl _ _ | assumption | refine bExt ?_ _ | refine bAlloc ?_ _ | refine bDrewN ?_ _ | refine bDrew ?_ | refine bSet ?_ (by first | exact Nat.le_refl _ | omega | (simp; done) | (simp; omega)) _))) hm).mono ?_); rintro e w' ⟨rfl, rfl⟩)))
          obtain ⟨y, hy⟩ := ext_ex (show Below w.heap.size w ((ext w x).alloc (.cells #[.int .i64 p.1, .int .i64 p.2.1, .int .i64 p.2.2] 133)) from by repeat (first | exact Below.refl _ _ | assumption | refine bExt ?_ _ | refine bAlloc ?_ _ | refine bDrewN ?_ _ | refine bDrew ?_ | refine bSet ?_ (by first | exact Nat.le_refl _ | omega | (simp; done) | (simp; omega)) _))
          have o1 := ho.below (bAlloc (Below.refl _ _) (.cells #[.int .i64 p.1, .int .i64 p.2.1, .int .i64 p.2.2] 133))
          rw [hy] at o1
          go_roundw
          case rel => exact ⟨k + 1, D, z, q, y, by omega, by go_num, rfl, hy, by omega, by rw [HS.out]; exact o1⟩
          case measure => simp [intOf]; omega
      · have HS := Lib.hid (HN.out (by simp [elP, h1]))
        go_wp2_with (first | (go_at_call 180; ((with_reducible refine (l1Has_any _ _ _ _ _ _ (hb.below (by repeat (first | exact Below.refl _ _ | assumption | refine bExt ?_ _ | refine bAlloc ?_ _ | refine bDrewN ?_ _ | refine bDrew ?_ | refine bSet ?_ (by first | exact Nat.le_refl _ | omega | (simp; done) | (simp; omega)) _))) hm).mono ?_); rintro e w' ⟨rfl, rfl⟩)))
        obtain ⟨y, hy⟩ := ext_ex (show Below w.heap.size w ((ext w x).alloc (.cells #[.int .i64 p.1, .int .i64 p.2.1, .int .i64 p.2.2] 133)) from by repeat (first | exact Below.refl _ _ | assumption | refine bExt ?_ _ | refine bAlloc ?_ _ | refine bDrewN ?_ _ | refine bDrew ?_ | refine bSet ?_ (by first | exact Nat.le_refl _ | omega | (simp; done) | (simp; omega)) _))
        have o1 := ho.below (bAlloc (Below.refl _ _) (.cells #[.int .i64 p.1, .int .i64 p.2.1, .int .i64 p.2.2] 133))
        rw [hy] at o1
        go_roundw
        case rel => exact ⟨k + 1, D, z, q, y, by omega, by go_num, rfl, hy, by omega, by rw [HS.out]; exact o1⟩
        case measure => simp [intOf]; omega
    · rw [elN_take Hl.out (by omega), HE.out] at ho
      go_wp2
      go_ret
      exact RetI.mk_ ho (Nat.le_refl _) (by repeat (first | exact Below.refl _ _ | assumption | refine bExt ?_ _ | refine bAlloc ?_ _ | refine bDrewN ?_ _ | refine bDrew ?_ | refine bSet ?_ (by first | exact Nat.le_refl _ | omega | (simp; done) | (simp; omega)) _))
set_option maxHeartbeats 1000000 in
theorem eligible_any (w : World) (A : Option Addr) (n c : Nat) (l : List T3) (B : Option Addr) (m d : Nat) (cl : List Int) (ha : Rd3 w A n l) (hb : RdI w B m cl) (hn : n ≤ 1099511627776) (hm : m ≤ 1099511627776) (v : Int) (hn24 : n ≤ 24) :
    Calls Try.prog 150 #[.slice A n c, .slice B m d, .int .i64 v] w (RetI w (eligL l cl v)) := by
  have Hl := Lib.hid ha.len
  go_enter Try.func150, Try.ntmps150
  go_wp2
  go_loopw [7, 9, 13] (fun u _ i wr => ∃ (k : Nat) (D : Option Addr) (z q : Nat) (x : World), k ≤ n ∧ i = .int .i64 k ∧ u = .slice D z q ∧ wr = ext w x ∧ z ≤ k ∧ OwI w.heap.size (ext w x) D z q (elN (l.take k) cl v)) (fun _ _ i _ => n - (intOf i).toNat)
  case atStart =>
    have o0 := OwI.lit_ (R := w) (w := w) (Below.refl _ _) [] (by simp [maxLen]) #[] rfl
    obtain ⟨z, hz⟩ := ext_ex (show Below w.heap.size w (w.alloc (.cells #[] 3)) from by repeat (first | exact Below.refl _ _ | assumption | refine bExt ?_ _ | refine bAlloc ?_ _ | refine bDrewN ?_ _ | refine bDrew ?_ | refine bSet ?_ (by first | exact Nat.le_refl _ | omega | (simp; done) | (simp; omega)) _))
    rw [hz] at o0
    exact ⟨0, _, 0, _, z, by omega, rfl, rfl, hz, by omega, o0⟩
  case round =>
    obtain ⟨k, D, z, q, x, hk, rfl, rfl, rfl, hzk, ho⟩ := hrel
    by_cases hlt : k < n
    · obtain ⟨b, off, rfl, hb0, hc0, hc1, hc2⟩ := ha.at_ k hlt
      obtain ⟨p, hp⟩ : ∃ p, l[k]?.getD z3 = p := ⟨_, rfl⟩
      rw [hp] at hc0 hc1 hc2
      have HY := Lib.hid (fun h => elN_yes (cl := cl) (v := v) (by rw [Hl.out]; exact hlt) hp h)
      have HN := Lib.hid (fun h => elN_no (cl := cl) (v := v) (by rw [Hl.out]; exact hlt) hp h)
      clear hp
      have hzb : z ≤ 1099511627776 := by omega
      by_cases h2 : v ≤ p.2.2
      · cases h1 : hasB cl p.2.1
        · have HS := Lib.hid (HY.out (by simp [elP, h1, h2]))
          go_wp2_with (first | (go_at_call 188; ((with_reducible refine (containsInts_any _ _ _ _ _ _ (hb.below (by repeat (first | exact Below.refl _ _ | assumption | refine bExt ?_ _ | refine bAlloc ?_ _ | refine bDrewN ?_ _ | refine bDrew ?_ | refine bSet ?_ (by first | exact Nat.le_refl _ | omega | (simp; done) | (simp; omega)) _))) hm).mono ?_); rintro e w' ⟨rfl, rfl⟩)) | (at_builtin; (refine wpl_push_int w _ _ _ ?_ rfl _ _ rfl D z q _ rfl ho ?_ ?_ rfl hzb ?_); (focus (first | rfl | (simp; done))); (focus (repeat (first | exact Below.refl _ _ | assumption | refine bExt ?_ _ | refine bAlloc ?_ _ | refine bDrewN ?_ _ | refine bDrew ?_ | refine bSet ?_ (by first | exact Nat.le_refl _ | omega | (simp; done) | (simp; omega)) _))); (focus (repeat (first | exact Below.refl _ _ | assumption | refine bExt ?_ _ | refine bAlloc ?_ _ | refine bDrewN ?_ _ | refine bDrew ?_ | refine bSet ?_ (by first | exact Nat.le_refl _ | omega | (simp; done) | (simp; omega)) _))); intro A1 c1 y o1 hg1 hd1))
          go_roundw
          case rel => exact ⟨k + 1, A1, z + 1, c1, y, by omega, by go_num, rfl, rfl, by omega, by rw [HS.out]; exact o1⟩
          case measure => simp [intOf]; omega
        · have HS := Lib.hid (HN.out (by simp [elP, h1]))
          go_wp2_with (first | (go_at_call 188; ((with_reducible refine (containsInts_any _ _ _ _ _ _ (hb.below (by repeat (first | exact Below.refl _ _ | assumption | refine bExt ?_ _ | refine bAlloc ?_ _ | refine bDrewN ?_ _ | refine bDrew ?_ | refine bSet ?_ (by first | exact Nat.le_refl _ | omega | (simp; done) | (simp; omega)) _))) hm).mono ?_); rintro e w' ⟨rfl, rfl⟩)))
          obtain ⟨y, hy⟩ := ext_ex (show Below w.heap.size w ((ext w x).alloc (.cells #[.int .i64 p.1, .int .i64 p.2.1, .int .i64 p.2.2] 133)) from by repeat (first | exact Below.refl _ _ | assumption | refine bExt ?_ _ | refine bAlloc ?_ _ | refine bDrewN ?_ _ | refine bDrew ?_ | refine bSet ?_ (by first | exact Nat.le_refl _ | omega | (simp; done) | (simp; omega)) _))
          have o1 := ho.below (bAlloc (Below.refl _ _) (.cells #[.int .i64 p.1, .int .i64 p.2.1, .int .i64 p.2.2] 133))
          rw [hy] at o1
          go_roundw
          case rel => exact ⟨k + 1, D, z, q, y, by omega, by go_num, rfl, hy, by omega, by rw [HS.out]; exact o1⟩
          case measure => simp [intOf]; omega
      · have HS := Lib.hid (HN.out (by simp [elP, h2]))
        go_wp2_with (first | (go_at_call 188; ((with_reducible refine (containsInts_any _ _ _ _ _ _ (hb.below (by repeat (first | exact Below.refl _ _ | assumption | refine bExt ?_ _ | refine bAlloc ?_ _ | refine bDrewN ?_ _ | refine bDrew ?_ | refine bSet ?_ (by first | exact Nat.le_refl _ | omega | (simp; done) | (simp; omega)) _))) hm).mono ?_); rintro e w' ⟨rfl, rfl⟩)))
        obtain ⟨y, hy⟩ := ext_ex (show Below w.heap.size w ((ext w x).alloc (.cells #[.int .i64 p.1, .int .i64 p.2.1, .int .i64 p.2.2] 133)) from by repeat (first | exact Below.refl _ _ | assumption | refine bExt ?_ _ | refine bAlloc ?_ _ | refine bDrewN ?_ _ | refine bDrew ?_ | refine bSet ?_ (by first | exact Nat.le_refl _ | omega | (simp; done) | (simp; omega)) _))
        have o1 := ho.below (bAlloc (Below.refl _ _) (.cells #[.int .i64 p.1, .int .i64 p.2.1, .int .i64 p.2.2] 133))
        rw [hy] at o1
        go_roundw
        case rel => exact ⟨k + 1, D, z, q, y, by omega, by go_num, rfl, hy, by omega, by rw [HS.out]; exact o1⟩
        case measure => simp [intOf]; omega
    · rw [elN_take Hl.out (by omega)] at ho
      have hzb : z ≤ 1099511627776 := by omega
      go_wp2_with (first | (go_at_call 189; ((with_reducible refine (sortInts_any _ _ _ _ _ _ ho hzb).mono ?_); rintro e w' ⟨rfl, o2, hg2⟩)))
      go_ret
      exact RetI.mk_ o2 (Nat.le_refl _) (below_grown (ext_below _ _) hg2 (fun k hk => (ho.blk hk).1))
def elV (l : List T3) (cl : List Int) (v : Int) : List Int := if askB l cl v then eligL l cl v else []
theorem off24 {l : List T3} {n : Nat} (hl : l.length = n) (h : offsB l = true) : n ≤ 24 := by
  simp only [offsB, Bool.and_eq_true, decide_eq_true_eq] at h; omega
theorem elV_len (l : List T3) (cl : List Int) (v : Int) : (elV l cl v).length ≤ 24 := by
  unfold elV
  cases h : askB l cl v
  · simp
  · have h1 := off24 rfl (askB_of h).1; have := eligL_len l cl v; simp only [if_true]; omega
end Go.Proofs.Ytppcmnolkbobfaa
