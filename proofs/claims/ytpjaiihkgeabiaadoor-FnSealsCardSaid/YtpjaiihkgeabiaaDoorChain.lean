/- Contracts of isChain, BranchOf and ExtendChain, in the program and in the reference. Conditions: lengths below 2^40. -/
import Derived.Test.YtpjaiihkgeabiaaDoorInts
import Derived.Test.YtpjaiihkgeabiaaDoorDigest
import Derived.Test.YtpjaiihkgeabiaaDoorLawKit
set_option linter.unusedVariables false
set_option linter.unusedSimpArgs false
set_option maxRecDepth 100000
namespace Go.Proofs.YtpjaiihkgeabiaaDoor
open Go.RowKit
theorem ret_intB {a b : Int} {k : Bool} (h : a = b) : Ending.returned (.tuple #[.int .i64 a, .bool k]) = .returned (.tuple #[.int .i64 b, .bool k]) := by rw [h]
def chainB (l : List Int) : Bool := decide (l.length ≤ 40) && allB l 0 1000002
theorem chainB_of {l : List Int} (h : chainB l = true) : l.length ≤ 40 ∧ allB l 0 1000002 = true := by simpa [chainB] using h
/-- The length of the common beginning. -/
def comLen : List Int → List Int → Nat
  | x :: xs, y :: ys => if x == y then comLen xs ys + 1 else 0
  | _, _ => 0
theorem comLen_eq : ∀ (k : Nat) (a b : List Int), k ≤ a.length → k ≤ b.length → (∀ j, j < k → Hid ((a[j]?.getD 0 == b[j]?.getD 0) = true)) → (k = a.length ∨ k = b.length ∨ (a[k]?.getD 0 == b[k]?.getD 0) = false) → comLen a b = k
  | 0, a, b, _, _, _, h => by
    match a, b with
    | [], _ => simp [comLen]
    | _ :: _, [] => simp [comLen]
    | x :: xs, y :: ys =>
      rcases h with h | h | h
      · simp at h
      · simp at h
      · simp at h; simp [comLen, h]
  | k + 1, a, b, h1, h2, hj, h => by
    match a, b with
    | [], _ => simp at h1
    | _ :: _, [] => simp at h2
    | x :: xs, y :: ys =>
      have h0 := (hj 0 (by omega)).out
      simp only [List.length_cons] at h1 h2 h
      have := comLen_eq k xs ys (by omega) (by omega) (fun j hjk => by have := (hj (j + 1) (by omega)).out; simp only [List.getElem?_cons_succ] at this; exact this) (by
        rcases h with h | h | h
        · exact .inl (by omega)
        · exact .inr (.inl (by omega))
        · exact .inr (.inr (by simpa using h)))
      simp only [List.getElem?_cons_zero, Option.getD_some] at h0
      rw [comLen, if_pos h0, this]
def branchOk (a b : List Int) : Bool := chainB a && chainB b && !sameB a b
def branchV (a b : List Int) : Int := if branchOk a b then (comLen a b : Int) else 0
theorem com_more {a b : List Int} {k : Nat} (hj : ∀ j, j < k → Hid ((a[j]?.getD 0 == b[j]?.getD 0) = true)) (h : (a[k]?.getD 0 == b[k]?.getD 0) = true) : ∀ j, j < k + 1 → Hid ((a[j]?.getD 0 == b[j]?.getD 0) = true) := fun j hjk => by
  by_cases e : j = k
  · subst e; exact h
  · exact hj j (by omega)
theorem chGood_any (w : World) (A : Option Addr) (n c : Nat) (l : List Int) (ha : RdI w A n l) (hn : n ≤ 1099511627776) :
    Calls Tryd.prog 48 #[.slice A n c] w fun e w' => e = .returned (.bool (chainB l)) ∧ w = w' := by
  have Hl := Lib.hid ha.len
  unfold chainB
  by_cases h : n ≤ 40
  · have e : decide (l.length ≤ 40) = true := by simpa [Hl.out] using h
    have hg : decide ((n : Int) ≤ 40) = true := by simp; omega
    rw [e]
    go_enter Tryd.func48, Tryd.ntmps48
    go_wp2_with (go_at_call 93; ((with_reducible refine (l1All_any _ _ _ _ _ _ _ ha hn).mono ?_); rintro e w' ⟨rfl, rfl⟩))
    go_ret
    exact ⟨by simp, rfl⟩
  · have e : decide (l.length ≤ 40) = false := by simpa [Hl.out] using h
    have hg : decide ((n : Int) ≤ 40) = false := by simp; omega
    rw [e]
    go_enter Tryd.func48, Tryd.ntmps48
    go_wp2_with (go_at_call 93; ((with_reducible refine (l1All_any _ _ _ _ _ _ _ ha hn).mono ?_); rintro e w' ⟨rfl, rfl⟩))
    go_ret
    exact ⟨by simp, rfl⟩
theorem isChain_any (w : World) (A : Option Addr) (n c : Nat) (l : List Int) (ha : RdI w A n l) (hn : n ≤ 1099511627776) :
    Calls Tryd.prog 45 #[.slice A n c] w fun e w' => e = .returned (.bool (chainB l)) ∧ w = w' := by
  have Hl := Lib.hid ha.len
  unfold chainB
  by_cases h : n ≤ 40
  · have e : decide (l.length ≤ 40) = true := by simpa [Hl.out] using h
    have hg : decide ((n : Int) ≤ 40) = true := by simp; omega
    rw [e]
    go_enter Tryd.func45, Tryd.ntmps45
    go_wp2_with (go_at_call 90; ((with_reducible refine (allWithin_any _ _ _ _ _ _ _ ha hn).mono ?_); rintro e w' ⟨rfl, rfl⟩))
    go_ret
    exact ⟨by simp, rfl⟩
  · have e : decide (l.length ≤ 40) = false := by simpa [Hl.out] using h
    have hg : decide ((n : Int) ≤ 40) = false := by simp; omega
    rw [e]
    go_enter Tryd.func45, Tryd.ntmps45
    go_wp2_with (go_at_call 90; ((with_reducible refine (allWithin_any _ _ _ _ _ _ _ ha hn).mono ?_); rintro e w' ⟨rfl, rfl⟩))
    go_ret
    exact ⟨by simp, rfl⟩
set_option maxHeartbeats 1000000 in
theorem specBranchOf_any (w : World) (A B : Option Addr) (n m c d : Nat) (l r : List Int) (ha : RdI w A n l) (hb : RdI w B m r) (hn : n ≤ 1099511627776) (hm : m ≤ 1099511627776) :
    Calls Tryd.prog 14 #[.slice A n c, .slice B m d] w fun e w' => e = .returned (.tuple #[.int .i64 (branchV l r), .bool (branchOk l r)]) ∧ ∃ x, w' = ext w x := by
  have Hl := Lib.hid ha.len
  have Hr := Lib.hid hb.len
  unfold branchV
  cases hk : branchOk l r
  · unfold branchOk at hk
    go_enter Tryd.func14, Tryd.ntmps14
    go_wp2_with (first | (go_at_call 48; ((with_reducible refine (chGood_any _ _ _ _ _ (by assumption) (by assumption)).mono ?_); rintro e w' ⟨rfl, rfl⟩)) | (go_at_call 57; ((with_reducible refine (l1Same_any _ _ _ _ _ _ _ _ _ ha hb hn).mono ?_); rintro e w' ⟨rfl, x, rfl⟩)))
    all_goals first | (go_ret2; exact ⟨rfl, ext_ex (by repeat (first | exact Below.refl _ _ | assumption | refine bExt ?_ _ | refine bAlloc ?_ _ | refine bDrewN ?_ _ | refine bDrew ?_ | refine bSet ?_ (by first | exact Nat.le_refl _ | omega | (simp; done) | (simp; omega)) _))⟩) | (exfalso; simp_all)
  · simp only [branchOk, Bool.and_eq_true, Bool.not_eq_true'] at hk
    obtain ⟨⟨h1, h2⟩, h3⟩ := hk
    go_enter Tryd.func14, Tryd.ntmps14
    go_wp2_with (first | (go_at_call 48; ((with_reducible refine (chGood_any _ _ _ _ _ (by assumption) (by assumption)).mono ?_); rintro e w' ⟨rfl, rfl⟩)) | (go_at_call 57; ((with_reducible refine (l1Same_any _ _ _ _ _ _ _ _ _ ha hb hn).mono ?_); rintro e w' ⟨rfl, x, rfl⟩)))
    go_loopw [6] (fun i wr => ∃ (k : Nat) (y : World), k ≤ n ∧ k ≤ m ∧ i = .int .i64 k ∧ wr = ext w y ∧ ∀ j, j < k → Hid ((l[j]?.getD 0 == r[j]?.getD 0) = true)) (fun i _ => n - (intOf i).toNat)
    case atStart => exact ⟨0, x, by omega, by omega, rfl, rfl, fun j hj => by omega⟩
    case round =>
      obtain ⟨k, y, hk1, hk2, rfl, rfl, hj⟩ := hrel
      have fin : (k = n ∨ k = m ∨ (l[k]?.getD 0 == r[k]?.getD 0) = false) → Hid ((comLen l r : Int) = k) := fun h => by
        have := comLen_eq k l r (by rw [Hl.out]; exact hk1) (by rw [Hr.out]; exact hk2) hj (by rw [Hl.out, Hr.out]; exact h)
        rw [this]; rfl
      by_cases q1 : k < n
      · by_cases q2 : k < m
        · obtain ⟨b1, o1, rfl, hb1, hc1⟩ := ha.open_ (by omega)
          obtain ⟨b2, o2, rfl, hb2, hc2⟩ := hb.open_ (by omega)
          by_cases q3 : (l[k]?.getD 0 == r[k]?.getD 0) = true
          · have Hm := Lib.hid (com_more hj q3)
            clear fin hj
            go_wp2
            go_quiet (fail)
            go_wp2
            go_roundw
            case rel => exact ⟨k + 1, _, by omega, by omega, by go_num, (ext_ex (by repeat (first | exact Below.refl _ _ | assumption | refine bExt ?_ _ | refine bAlloc ?_ _ | refine bDrewN ?_ _ | refine bDrew ?_ | refine bSet ?_ (by first | exact Nat.le_refl _ | omega | (simp; done) | (simp; omega)) _))).choose_spec, Hm.out⟩
            case measure => simp [intOf]; omega
          · have q4 : (l[k]?.getD 0 == r[k]?.getD 0) = false := by simpa using q3
            have Hf := fin (.inr (.inr q4))
            clear fin hj q3
            go_wp2
            go_quiet (fail)
            go_wp2
            go_ret2
            exact ⟨ret_intB (by simp [Hf.out]), ext_ex (by repeat (first | exact Below.refl _ _ | assumption | refine bExt ?_ _ | refine bAlloc ?_ _ | refine bDrewN ?_ _ | refine bDrew ?_ | refine bSet ?_ (by first | exact Nat.le_refl _ | omega | (simp; done) | (simp; omega)) _))⟩
        · have Hf := fin (.inr (.inl (by omega)))
          have hd1 : decide (k < n) = true := by simpa using q1
          have hd2 : decide (k < m) = false := by simpa using q2
          clear fin hj
          go_wp2
          go_quiet (fail)
          go_wp2
          go_ret2
          exact ⟨ret_intB (by simp [Hf.out]), ext_ex (by repeat (first | exact Below.refl _ _ | assumption | refine bExt ?_ _ | refine bAlloc ?_ _ | refine bDrewN ?_ _ | refine bDrew ?_ | refine bSet ?_ (by first | exact Nat.le_refl _ | omega | (simp; done) | (simp; omega)) _))⟩
      · have Hf := fin (.inl (by omega))
        have hd1 : decide (k < n) = false := by simpa using q1
        clear fin hj
        go_wp2
        go_quiet (fail)
        go_wp2
        go_ret2
        exact ⟨ret_intB (by simp [Hf.out]), ext_ex (by repeat (first | exact Below.refl _ _ | assumption | refine bExt ?_ _ | refine bAlloc ?_ _ | refine bDrewN ?_ _ | refine bDrew ?_ | refine bSet ?_ (by first | exact Nat.le_refl _ | omega | (simp; done) | (simp; omega)) _))⟩
set_option maxHeartbeats 1000000 in
theorem implBranchOf_any (w : World) (A B : Option Addr) (n m c d : Nat) (l r : List Int) (ha : RdI w A n l) (hb : RdI w B m r) (hn : n ≤ 1099511627776) (hm : m ≤ 1099511627776) :
    Calls Tryd.prog 13 #[.slice A n c, .slice B m d] w fun e w' => e = .returned (.tuple #[.int .i64 (branchV l r), .bool (branchOk l r)]) ∧ ∃ x, w' = ext w x := by
  have Hl := Lib.hid ha.len
  have Hr := Lib.hid hb.len
  unfold branchV
  cases hk : branchOk l r
  · unfold branchOk at hk
    go_enter Tryd.func13, Tryd.ntmps13
    go_wp2_with (first | (go_at_call 45; ((with_reducible refine (isChain_any _ _ _ _ _ (by assumption) (by assumption)).mono ?_); rintro e w' ⟨rfl, rfl⟩)) | (go_at_call 56; ((with_reducible refine (equalInts_any _ _ _ _ _ _ _ _ _ ha hb hn).mono ?_); rintro e w' ⟨rfl, x, rfl⟩)))
    all_goals first | (go_ret2; exact ⟨rfl, ext_ex (by repeat (first | exact Below.refl _ _ | assumption | refine bExt ?_ _ | refine bAlloc ?_ _ | refine bDrewN ?_ _ | refine bDrew ?_ | refine bSet ?_ (by first | exact Nat.le_refl _ | omega | (simp; done) | (simp; omega)) _))⟩) | (exfalso; simp_all)
  · simp only [branchOk, Bool.and_eq_true, Bool.not_eq_true'] at hk
    obtain ⟨⟨h1, h2⟩, h3⟩ := hk
    go_enter Tryd.func13, Tryd.ntmps13
    go_wp2_with (first | (go_at_call 45; ((with_reducible refine (isChain_any _ _ _ _ _ (by assumption) (by assumption)).mono ?_); rintro e w' ⟨rfl, rfl⟩)) | (go_at_call 56; ((with_reducible refine (equalInts_any _ _ _ _ _ _ _ _ _ ha hb hn).mono ?_); rintro e w' ⟨rfl, x, rfl⟩)))
    go_loopw [6] (fun i wr => ∃ (k : Nat) (y : World), k ≤ n ∧ k ≤ m ∧ i = .int .i64 k ∧ wr = ext w y ∧ ∀ j, j < k → Hid ((l[j]?.getD 0 == r[j]?.getD 0) = true)) (fun i _ => n - (intOf i).toNat)
    case atStart => exact ⟨0, x, by omega, by omega, rfl, rfl, fun j hj => by omega⟩
    case round =>
      obtain ⟨k, y, hk1, hk2, rfl, rfl, hj⟩ := hrel
      have fin : (k = n ∨ k = m ∨ (l[k]?.getD 0 == r[k]?.getD 0) = false) → Hid ((comLen l r : Int) = k) := fun h => by
        have := comLen_eq k l r (by rw [Hl.out]; exact hk1) (by rw [Hr.out]; exact hk2) hj (by rw [Hl.out, Hr.out]; exact h)
        rw [this]; rfl
      by_cases q1 : k < n
      · by_cases q2 : k < m
        · obtain ⟨b1, o1, rfl, hb1, hc1⟩ := ha.open_ (by omega)
          obtain ⟨b2, o2, rfl, hb2, hc2⟩ := hb.open_ (by omega)
          by_cases q3 : (l[k]?.getD 0 == r[k]?.getD 0) = true
          · have Hm := Lib.hid (com_more hj q3)
            clear fin hj
            go_wp2
            go_quiet (fail)
            go_wp2
            go_roundw
            case rel => exact ⟨k + 1, _, by omega, by omega, by go_num, (ext_ex (by repeat (first | exact Below.refl _ _ | assumption | refine bExt ?_ _ | refine bAlloc ?_ _ | refine bDrewN ?_ _ | refine bDrew ?_ | refine bSet ?_ (by first | exact Nat.le_refl _ | omega | (simp; done) | (simp; omega)) _))).choose_spec, Hm.out⟩
            case measure => simp [intOf]; omega
          · have q4 : (l[k]?.getD 0 == r[k]?.getD 0) = false := by simpa using q3
            have Hf := fin (.inr (.inr q4))
            clear fin hj q3
            go_wp2
            go_quiet (fail)
            go_wp2
            go_ret2
            exact ⟨ret_intB (by simp [Hf.out]), ext_ex (by repeat (first | exact Below.refl _ _ | assumption | refine bExt ?_ _ | refine bAlloc ?_ _ | refine bDrewN ?_ _ | refine bDrew ?_ | refine bSet ?_ (by first | exact Nat.le_refl _ | omega | (simp; done) | (simp; omega)) _))⟩
        · have Hf := fin (.inr (.inl (by omega)))
          have hd1 : decide (k < n) = true := by simpa using q1
          have hd2 : decide (k < m) = false := by simpa using q2
          clear fin hj
          go_wp2
          go_quiet (fail)
          go_wp2
          go_ret2
          exact ⟨ret_intB (by simp [Hf.out]), ext_ex (by repeat (first | exact Below.refl _ _ | assumption | refine bExt ?_ _ | refine bAlloc ?_ _ | refine bDrewN ?_ _ | refine bDrew ?_ | refine bSet ?_ (by first | exact Nat.le_refl _ | omega | (simp; done) | (simp; omega)) _))⟩
      · have Hf := fin (.inl (by omega))
        have hd1 : decide (k < n) = false := by simpa using q1
        clear fin hj
        go_wp2
        go_quiet (fail)
        go_wp2
        go_ret2
        exact ⟨ret_intB (by simp [Hf.out]), ext_ex (by repeat (first | exact Below.refl _ _ | assumption | refine bExt ?_ _ | refine bAlloc ?_ _ | refine bDrewN ?_ _ | refine bDrew ?_ | refine bSet ?_ (by first | exact Nat.le_refl _ | omega | (simp; done) | (simp; omega)) _))⟩
def extOk (l : List Int) (s : ByteArray) : Bool := chainB l && decide (s.size ≤ 400) && !decide (l.length = 40)
def lastOf (l : List Int) : Int := l[l.length - 1]?.getD 0
def extV (l : List Int) (s : ByteArray) : List Int := if extOk l s then l ++ [linkV (lastOf l) s] else []
theorem extV_len (l : List Int) (s : ByteArray) : (extV l s).length ≤ 41 := by
  unfold extV
  split
  · rename_i h
    simp only [extOk, Bool.and_eq_true] at h
    have := (chainB_of h.1.1).1
    simp; omega
  · simp
set_option maxHeartbeats 1000000 in
theorem specExtendChain_any (w : World) (A : Option Addr) (n c : Nat) (l : List Int) (s : ByteArray) (ha : RdI w A n l) (hn : n ≤ 1099511627776) (hs : s.size ≤ 9223372036854775807) :
    Calls Tryd.prog 23 #[.slice A n c, .string s] w (RetIB w (extV l s) (extOk l s)) := by
  have Hl := Lib.hid ha.len
  unfold extV
  cases hk : extOk l s
  · unfold extOk at hk
    rw [Hl.out] at hk
    by_cases q1 : s.size ≤ 400
    · by_cases q2 : n = 40
      · subst q2
        go_enter Tryd.func23, Tryd.ntmps23
        go_wp2_with (first | (go_at_call 69; ((with_reducible refine (chRecord_any _ _ (by assumption)).mono ?_); rintro e w' ⟨rfl, rfl⟩)) | (go_at_call 48; ((with_reducible refine (chGood_any _ _ _ _ _ ha hn).mono ?_); rintro e w' ⟨rfl, rfl⟩)))
        all_goals (go_ret2; exact RetIB.mk_ OwI.nil_ (Nat.le_refl _) (Below.refl _ _))
      · have hcf : chainB l = false := by simpa [q1, q2] using hk
        clear hk
        go_enter Tryd.func23, Tryd.ntmps23
        go_wp2_with (first | (go_at_call 69; ((with_reducible refine (chRecord_any _ _ (by assumption)).mono ?_); rintro e w' ⟨rfl, rfl⟩)) | (go_at_call 48; ((with_reducible refine (chGood_any _ _ _ _ _ ha hn).mono ?_); rintro e w' ⟨rfl, rfl⟩)))
        all_goals (go_ret2; exact RetIB.mk_ OwI.nil_ (Nat.le_refl _) (Below.refl _ _))
    · clear hk
      cases hc : chainB l
      all_goals
        go_enter Tryd.func23, Tryd.ntmps23
        go_wp2_with (first | (go_at_call 69; ((with_reducible refine (chRecord_any _ _ (by assumption)).mono ?_); rintro e w' ⟨rfl, rfl⟩)) | (go_at_call 48; ((with_reducible refine (chGood_any _ _ _ _ _ ha hn).mono ?_); rintro e w' ⟨rfl, rfl⟩)))
        all_goals (go_ret2; exact RetIB.mk_ OwI.nil_ (Nat.le_refl _) (Below.refl _ _))
  · simp only [extOk, Bool.and_eq_true, Bool.not_eq_true', decide_eq_true_eq, decide_eq_false_iff_not] at hk
    obtain ⟨⟨h1, h2⟩, h3⟩ := hk
    rw [Hl.out] at h3
    have hch := chainB_of h1
    rw [Hl.out] at hch
    have h40 := hch.1
    have hne : ((n : Int) == 40) = false := by simp; omega
    have hd400 : decide (s.size ≤ 400) = true := by simpa using h2
    have hs40 : s.size ≤ 1099511627776 := by omega
    have hn2 : n ≤ 1099511627776 := hn
    by_cases hz : 0 < n
    · have hlast : 0 ≤ lastOf l ∧ lastOf l ≤ 1000002 := allB_get hch.2 _ (by rw [Hl.out]; omega)
      have HL : Hid (lastOf l = l[n - 1]?.getD 0) := by rw [lastOf, Hl.out]; rfl
      obtain ⟨b1, o1, rfl, hb1, hc1⟩ := ha.open_ hz
      have hcl := hc1 (n - 1) (by omega)
      rw [List.getD_eq_getElem?_getD, ← HL.out] at hcl
      clear hc1
      generalize lastOf l = la at *
      go_enter Tryd.func23, Tryd.ntmps23
      go_wp2_with (first | (go_at_call 69; ((with_reducible refine (chRecord_any _ _ (by assumption)).mono ?_); rintro e w' ⟨rfl, rfl⟩)) | (go_at_call 48; ((with_reducible refine (chGood_any _ _ _ _ _ ha hn).mono ?_); rintro e w' ⟨rfl, rfl⟩)) | (go_at_call 54; ((with_reducible refine (l1Own_any _ _ _ _ _ ha hn).mono ?_); rintro e w' ⟨B, m, d, x, rfl, rfl, ob⟩; obtain rfl : m = n := ob.len.symm.trans Hl.out)) | (go_at_call 70; ((with_reducible refine (chNext_any _ _ _ hs40 hlast.1 hlast.2).mono ?_); rintro e w' ⟨rfl, rfl⟩)) | (at_builtin; (refine wpl_push_int w _ _ _ ?_ rfl _ _ rfl B m d _ rfl ob ?_ ?_ rfl hn2 ?_); (focus (first | rfl | (simp; done))); (focus (repeat (first | exact Below.refl _ _ | assumption | refine bExt ?_ _ | refine bAlloc ?_ _ | refine bDrewN ?_ _ | refine bDrew ?_ | refine bSet ?_ (by first | exact Nat.le_refl _ | omega | (simp; done) | (simp; omega)) _))); (focus (repeat (first | exact Below.refl _ _ | assumption | refine bExt ?_ _ | refine bAlloc ?_ _ | refine bDrewN ?_ _ | refine bDrew ?_ | refine bSet ?_ (by first | exact Nat.le_refl _ | omega | (simp; done) | (simp; omega)) _))); intro A' c' y ho hg hd))
      go_ret2
      exact RetIB.mk_ ho (Nat.le_refl _) (ext_below _ _)
    · obtain rfl : n = 0 := by omega
      have hl0 : l = [] := List.eq_nil_of_length_eq_zero Hl.out
      subst hl0
      have HL : Hid (lastOf [] = 0) := rfl
      rw [HL.out]
      go_enter Tryd.func23, Tryd.ntmps23
      go_wp2_with (first | (go_at_call 69; ((with_reducible refine (chRecord_any _ _ (by assumption)).mono ?_); rintro e w' ⟨rfl, rfl⟩)) | (go_at_call 48; ((with_reducible refine (chGood_any _ _ _ _ _ ha hn).mono ?_); rintro e w' ⟨rfl, rfl⟩)) | (go_at_call 54; ((with_reducible refine (l1Own_any _ _ _ _ _ ha hn).mono ?_); rintro e w' ⟨B, m, d, x, rfl, rfl, ob⟩; obtain rfl : m = 0 := ob.len.symm.trans rfl)) | (go_at_call 70; ((with_reducible refine (chNext_any _ _ _ hs40 (by omega) (by omega)).mono ?_); rintro e w' ⟨rfl, rfl⟩)) | (at_builtin; (refine wpl_push_int w _ _ _ ?_ rfl _ _ rfl B 0 d _ rfl ob ?_ ?_ rfl hn2 ?_); (focus (first | rfl | (simp; done))); (focus (repeat (first | exact Below.refl _ _ | assumption | refine bExt ?_ _ | refine bAlloc ?_ _ | refine bDrewN ?_ _ | refine bDrew ?_ | refine bSet ?_ (by first | exact Nat.le_refl _ | omega | (simp; done) | (simp; omega)) _))); (focus (repeat (first | exact Below.refl _ _ | assumption | refine bExt ?_ _ | refine bAlloc ?_ _ | refine bDrewN ?_ _ | refine bDrew ?_ | refine bSet ?_ (by first | exact Nat.le_refl _ | omega | (simp; done) | (simp; omega)) _))); intro A' c' y ho hg hd))
      go_ret2
      exact RetIB.mk_ ho (Nat.le_refl _) (ext_below _ _)
set_option maxHeartbeats 1000000 in
theorem implExtendChain_any (w : World) (A : Option Addr) (n c : Nat) (l : List Int) (s : ByteArray) (ha : RdI w A n l) (hn : n ≤ 1099511627776) (hs : s.size ≤ 9223372036854775807) :
    Calls Tryd.prog 22 #[.slice A n c, .string s] w (RetIB w (extV l s) (extOk l s)) := by
  have Hl := Lib.hid ha.len
  unfold extV
  cases hk : extOk l s
  · unfold extOk at hk
    rw [Hl.out] at hk
    by_cases q1 : s.size ≤ 400
    · by_cases q2 : n = 40
      · subst q2
        go_enter Tryd.func22, Tryd.ntmps22
        go_wp2_with (first | (go_at_call 45; ((with_reducible refine (isChain_any _ _ _ _ _ ha hn).mono ?_); rintro e w' ⟨rfl, rfl⟩)))
        all_goals (go_ret2; exact RetIB.mk_ OwI.nil_ (Nat.le_refl _) (Below.refl _ _))
      · have hcf : chainB l = false := by simpa [q1, q2] using hk
        clear hk
        go_enter Tryd.func22, Tryd.ntmps22
        go_wp2_with (first | (go_at_call 45; ((with_reducible refine (isChain_any _ _ _ _ _ ha hn).mono ?_); rintro e w' ⟨rfl, rfl⟩)))
        all_goals (go_ret2; exact RetIB.mk_ OwI.nil_ (Nat.le_refl _) (Below.refl _ _))
    · clear hk
      cases hc : chainB l
      all_goals
        go_enter Tryd.func22, Tryd.ntmps22
        go_wp2_with (first | (go_at_call 45; ((with_reducible refine (isChain_any _ _ _ _ _ ha hn).mono ?_); rintro e w' ⟨rfl, rfl⟩)))
        all_goals (go_ret2; exact RetIB.mk_ OwI.nil_ (Nat.le_refl _) (Below.refl _ _))
  · simp only [extOk, Bool.and_eq_true, Bool.not_eq_true', decide_eq_true_eq, decide_eq_false_iff_not] at hk
    obtain ⟨⟨h1, h2⟩, h3⟩ := hk
    rw [Hl.out] at h3
    have hch := chainB_of h1
    rw [Hl.out] at hch
    have h40 := hch.1
    have hne : ((n : Int) == 40) = false := by simp; omega
    have hd400 : decide (s.size ≤ 400) = true := by simpa using h2
    have hs40 : s.size ≤ 1099511627776 := by omega
    have hn2 : n ≤ 1099511627776 := hn
    by_cases hz : 0 < n
    · have hlast : 0 ≤ lastOf l ∧ lastOf l ≤ 1000002 := allB_get hch.2 _ (by rw [Hl.out]; omega)
      have HL : Hid (lastOf l = l[n - 1]?.getD 0) := by rw [lastOf, Hl.out]; rfl
      obtain ⟨b1, o1, rfl, hb1, hc1⟩ := ha.open_ hz
      have hcl := hc1 (n - 1) (by omega)
      rw [List.getD_eq_getElem?_getD, ← HL.out] at hcl
      clear hc1
      generalize lastOf l = la at *
      go_enter Tryd.func22, Tryd.ntmps22
      go_wp2_with (first | (go_at_call 45; ((with_reducible refine (isChain_any _ _ _ _ _ ha hn).mono ?_); rintro e w' ⟨rfl, rfl⟩)) | (go_at_call 68; ((with_reducible refine (copyInts_any _ _ _ _ _ ha hn).mono ?_); rintro e w' ⟨B, m, d, x, rfl, rfl, ob⟩; obtain rfl : m = n := ob.len.symm.trans Hl.out)) | (go_at_call 66; ((with_reducible refine (linkOf_any _ _ _ hs40 hlast.1 hlast.2).mono ?_); rintro e w' ⟨rfl, rfl⟩)) | (at_builtin; (refine wpl_push_int w _ _ _ ?_ rfl _ _ rfl B m d _ rfl ob ?_ ?_ rfl hn2 ?_); (focus (first | rfl | (simp; done))); (focus (repeat (first | exact Below.refl _ _ | assumption | refine bExt ?_ _ | refine bAlloc ?_ _ | refine bDrewN ?_ _ | refine bDrew ?_ | refine bSet ?_ (by first | exact Nat.le_refl _ | omega | (simp; done) | (simp; omega)) _))); (focus (repeat (first | exact Below.refl _ _ | assumption | refine bExt ?_ _ | refine bAlloc ?_ _ | refine bDrewN ?_ _ | refine bDrew ?_ | refine bSet ?_ (by first | exact Nat.le_refl _ | omega | (simp; done) | (simp; omega)) _))); intro A' c' y ho hg hd))
      go_ret2
      exact RetIB.mk_ ho (Nat.le_refl _) (ext_below _ _)
    · obtain rfl : n = 0 := by omega
      have hl0 : l = [] := List.eq_nil_of_length_eq_zero Hl.out
      subst hl0
      have HL : Hid (lastOf [] = 0) := rfl
      rw [HL.out]
      go_enter Tryd.func22, Tryd.ntmps22
      go_wp2_with (first | (go_at_call 45; ((with_reducible refine (isChain_any _ _ _ _ _ ha hn).mono ?_); rintro e w' ⟨rfl, rfl⟩)) | (go_at_call 68; ((with_reducible refine (copyInts_any _ _ _ _ _ ha hn).mono ?_); rintro e w' ⟨B, m, d, x, rfl, rfl, ob⟩; obtain rfl : m = 0 := ob.len.symm.trans rfl)) | (go_at_call 66; ((with_reducible refine (linkOf_any _ _ _ hs40 (by omega) (by omega)).mono ?_); rintro e w' ⟨rfl, rfl⟩)) | (at_builtin; (refine wpl_push_int w _ _ _ ?_ rfl _ _ rfl B 0 d _ rfl ob ?_ ?_ rfl hn2 ?_); (focus (first | rfl | (simp; done))); (focus (repeat (first | exact Below.refl _ _ | assumption | refine bExt ?_ _ | refine bAlloc ?_ _ | refine bDrewN ?_ _ | refine bDrew ?_ | refine bSet ?_ (by first | exact Nat.le_refl _ | omega | (simp; done) | (simp; omega)) _))); (focus (repeat (first | exact Below.refl _ _ | assumption | refine bExt ?_ _ | refine bAlloc ?_ _ | refine bDrewN ?_ _ | refine bDrew ?_ | refine bSet ?_ (by first | exact Nat.le_refl _ | omega | (simp; done) | (simp; omega)) _))); intro A' c' y ho hg hd))
      go_ret2
      exact RetIB.mk_ ho (Nat.le_refl _) (ext_below _ _)
end Go.Proofs.YtpjaiihkgeabiaaDoor
