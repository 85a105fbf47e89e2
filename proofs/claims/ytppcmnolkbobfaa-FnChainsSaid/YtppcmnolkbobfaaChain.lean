/- Contracts of isChain, BranchOf and ExtendChain, in the program and in the reference. Conditions: lengths below 2^40. -/
import Derived.Test.YtppcmnolkbobfaaInts
import Derived.Test.YtppcmnolkbobfaaDigest
import Derived.Test.YtppcmnolkbobfaaLawKit
set_option linter.unusedVariables false
set_option linter.unusedSimpArgs false
set_option maxRecDepth 100000
namespace Go.Proofs.Ytppcmnolkbobfaa
open Go.RowKit
theorem ret_intB {a b : Int} {k : Bool} (h : a = b) : Ending.returned (.tuple #[.int .i64 a, .bool k]) = .returned (.tuple #[.int .i64 b, .bool k]) := by rw [h]
def chainB (l : List Int) : Bool := decide (l.length ≤ 40) && allB l 0 1000002
theorem chainB_of {l : List Int} (h : chainB l = true) : l.length ≤ 40 ∧ allB l 0 1000002 = true := by simpa [chainB] using h
/-- The length of the common beginning. -/
def comLen : List Int → List Int → Nat
  | x :: xs, y :: ys => if x == y then comLen xs ys + 1 else 0
  | _, _ => 0
theorem comLen_eq : ∀ (k : Nat) (a b : List Int), k ≤ a.length → k ≤ b.length → (∀ j, j < k → Hid ((a[j]?.getD 0 == b[j]?.getD 0) = true)) → (k = a.length ∨ k = b.length ∨ (a[k]?.getD 0 == b[k]?.getD 0) = false) → comLen a b = k
  | 0, a, b, _, _, _, h => by
    match a, b with
    | [], _ => simp [comLen]
    | _ :: _, [] => simp [comLen]
    | x :: xs, y :: ys =>
      rcases h with h | h | h
      · simp at h
      · simp at h
      · simp at h; simp [comLen, h]
  | k + 1, a, b, h1, h2, hj, h => by
    match a, b with
    | [], _ => simp at h1
    | _ :: _, [] => simp at h2
    | x :: xs, y :: ys =>
      have h0 := (hj 0 (by omega)).out
      simp only [List.length_cons] at h1 h2 h
      have := comLen_eq k xs ys (by omega) (by omega) (fun j hjk => by have := (hj (j + 1) (by omega)).out; simp only [List.getElem?_cons_succ] at this; exact this) (by
        rcases h with h | h | h
        · exact .inl (by omega)
        · exact .inr (.inl (by omega))
        · exact .inr (.inr (by simpa using h)))
      simp only [List.getElem?_cons_zero, Option.getD_some] at h0
      rw [comLen, if_pos h0, this]
def branchOk (a b : List Int) : Bool := chainB a && chainB b && !sameB a b
def branchV (a b : List Int) : Int := if branchOk a b then (comLen a b : Int) else 0
theorem com_more {a b : List Int} {k : Nat} (hj : ∀ j, j < k → Hid ((a[j]?.getD 0 == b[j]?.getD 0) = true)) (h : (a[k]?.getD 0 == b[k]?.getD 0) = true) : ∀ j, j < k + 1 → Hid ((a[j]?.getD 0 == b[j]?.getD 0) = true) := fun j hjk => by
  by_cases e : j = k
  · subst e; exact h
  · exact hj j (by omega)
theorem chGood_any (w : World) (A : Option Addr) (n c : Nat) (l : List Int) (ha : RdI w A n l) (hn : n ≤ 1099511627776) :
    Calls Try.prog 120 #[.slice A n c] w fun e w' => e = .returned (.bool (chainB l)) ∧ w = w' := by
  have Hl := Lib.hid ha.len
  unfold chainB
  by_cases h : n ≤ 40
  · have e : decide (l.length ≤ 40) = true := by simpa [Hl.out] using h
    have hg : decide ((n : Int) ≤ 40) = true := by simp; omega
    rw [e]
    go_enter Try.func120, Try.ntmps120
    go_wp2_with (go_at_call 174; ((with_reducible refine (l1All_any _ _ _ _ _ _ _ ha hn).mono ?_); rintro e w' ⟨rfl, rfl⟩))
    go_ret
    exact ⟨by simp, rfl⟩
  · have e : decide (l.length ≤ 40) = false := by simpa [Hl.out] using h
    have hg : decide ((n : Int) ≤ 40) = false := by simp; omega
    rw [e]
    go_enter Try.func120, Try.ntmps120
    go_wp2_with (go_at_call 174; ((with_reducible refine (l1All_any _ _ _ _ _ _ _ ha hn).mono ?_); rintro e w' ⟨rfl, rfl⟩))
    go_ret
    exact ⟨by simp, rfl⟩
theorem isChain_any (w : World) (A : Option Addr) (n c : Nat) (l : List Int) (ha : RdI w A n l) (hn : n ≤ 1099511627776) :
    Calls Try.prog 110 #[.slice A n c] w fun e w' => e = .returned (.bool (chainB l)) ∧ w = w' := by
  have Hl := Lib.hid ha.len
  unfold chainB
  by_cases h : n ≤ 40
  · have e : decide (l.length ≤ 40) = true := by simpa [Hl.out] using h
    have hg : decide ((n : Int) ≤ 40) = true := by simp; omega
    rw [e]
    go_enter Try.func110, Try.ntmps110
    go_wp2_with (go_at_call 173; ((with_reducible refine (allWithin_any _ _ _ _ _ _ _ ha hn).mono ?_); rintro e w' ⟨rfl, rfl⟩))
    go_ret
    exact ⟨by simp, rfl⟩
  · have e : decide (l.length ≤ 40) = false := by simpa [Hl.out] using h
    have hg : decide ((n : Int) ≤ 40) = false := by simp; omega
    rw [e]
    go_enter Try.func110, Try.ntmps110
    go_wp2_with (go_at_call 173; ((with_reducible refine (allWithin_any _ _ _ _ _ _ _ ha hn).mono ?_); rintro e w' ⟨rfl, rfl⟩))
    go_ret
    exact ⟨by simp, rfl⟩
def extOk (l : List Int) (s : ByteArray) : Bool := chainB l && decide (s.size ≤ 400) && !decide (l.length = 40)
def lastOf (l : List Int) : Int := l[l.length - 1]?.getD 0
def extV (l : List Int) (s : ByteArray) : List Int := if extOk l s then l ++ [linkV (lastOf l) s] else []
theorem extV_len (l : List Int) (s : ByteArray) : (extV l s).length ≤ 41 := by
  unfold extV
  split
  · rename_i h
    simp only [extOk, Bool.and_eq_true] at h
    have := (chainB_of h.1.1).1
    simp; omega
  · simp
set_option maxHeartbeats 1000000 in
theorem implExtendChain_any (w : World) (A : Option Addr) (n c : Nat) (l : List Int) (s : ByteArray) (ha : RdI w A n l) (hn : n ≤ 1099511627776) (hs : s.size ≤ 9223372036854775807) :
    Calls Try.prog 29 #[.slice A n c, .string s] w (RetIB w (extV l s) (extOk l s)) := by
  have Hl := Lib.hid ha.len
  unfold extV
  cases hk : extOk l s
  · unfold extOk at hk
    rw [Hl.out] at hk
    by_cases q1 : s.size ≤ 400
    · by_cases q2 : n = 40
      · subst q2
        go_enter Try.func29, Try.ntmps29
        go_wp2_with (first | (go_at_call 110; ((with_reducible refine (isChain_any _ _ _ _ _ ha hn).mono ?_); rintro e w' ⟨rfl, rfl⟩)))
        all_goals (go_ret2; exact RetIB.mk_ OwI.nil_ (Nat.le_refl _) (Below.refl _ _))
      · have hcf : chainB l = false := by simpa [q1, q2] using hk
        clear hk
        go_enter Try.func29, Try.ntmps29
        go_wp2_with (first | (go_at_call 110; ((with_reducible refine (isChain_any _ _ _ _ _ ha hn).mono ?_); rintro e w' ⟨rfl, rfl⟩)))
        all_goals (go_ret2; exact RetIB.mk_ OwI.nil_ (Nat.le_refl _) (Below.refl _ _))
    · clear hk
      cases hc : chainB l
      all_goals
        go_enter Try.func29, Try.ntmps29
        go_wp2_with (first | (go_at_call 110; ((with_reducible refine (isChain_any _ _ _ _ _ ha hn).mono ?_); rintro e w' ⟨rfl, rfl⟩)))
        all_goals (go_ret2; exact RetIB.mk_ OwI.nil_ (Nat.le_refl _) (Below.refl _ _))
  · simp only [extOk, Bool.and_eq_true, Bool.not_eq_true', decide_eq_true_eq, decide_eq_false_iff_not] at hk
    obtain ⟨⟨h1, h2⟩, h3⟩ := hk
    rw [Hl.out] at h3
    have hch := chainB_of h1
    rw [Hl.out] at hch
    have h40 := hch.1
    have hne : ((n : Int) == 40) = false := by simp; omega
    have hd400 : decide (s.size ≤ 400) = true := by simpa using h2
    have hs40 : s.size ≤ 1099511627776 := by omega
    have hn2 : n ≤ 1099511627776 := hn
    by_cases hz : 0 < n
    · have hlast : 0 ≤ lastOf l ∧ lastOf l ≤ 1000002 := allB_get hch.2 _ (by rw [Hl.out]; omega)
      have HL : Hid (lastOf l = l[n - 1]?.getD 0) := by rw [lastOf, Hl.out]; rfl
      obtain ⟨b1, o1, rfl, hb1, hc1⟩ := ha.open_ hz
      have hcl := hc1 (n - 1) (by omega)
      rw [List.getD_eq_getElem?_getD, ← HL.out] at hcl
      clear hc1
      generalize lastOf l = la at *
      go_enter Try.func29, Try.ntmps29
      go_wp2_with (first | (go_at_call 110; ((with_reducible refine (isChain_any _ _ _ _ _ ha hn).mono ?_); rintro e w' ⟨rfl, rfl⟩)) | (go_at_call 116; ((with_reducible refine (copyInts_any _ _ _ _ _ ha hn).mono ?_); rintro e w' ⟨B, m, d, x, rfl, rfl, ob⟩; obtain rfl : m = n := ob.len.symm.trans Hl.out)) | (go_at_call 111; ((with_reducible refine (linkOf_any _ _ _ hs40 hlast.1 hlast.2).mono ?_); rintro e w' ⟨rfl, rfl⟩)) | (at_builtin; (refine wpl_push_int w _ _ _ ?_ rfl _ _ rfl B m d _ rfl ob ?_ ?_ rfl hn2 ?_); (focus (first | rfl | (simp; done))); (focus (repeat (first | exact Below.refl _ _ | assumption | refine bExt ?_ _ | refine bAlloc ?_ _ | refine bDrewN ?_ _ | refine bDrew ?_ | refine bSet ?_ (by first | exact Nat.le_refl _ | omega | (simp; done) | (simp; omega)) _))); (focus (repeat (first | exact Below.refl _ _ | assumption | refine bExt ?_ _ | refine bAlloc ?_ _ | refine bDrewN ?_ _ | refine bDrew ?_ | refine bSet ?_ (by first | exact Nat.le_refl _ | omega | (simp; done) | (simp; omega)) _))); intro A' c' y ho hg hd))
      go_ret2
      exact RetIB.mk_ ho (Nat.le_refl _) (ext_below _ _)
    · obtain rfl : n = 0 := by omega
      have hl0 : l = [] := List.eq_nil_of_length_eq_zero Hl.out
      subst hl0
      have HL : Hid (lastOf [] = 0) := rfl
      rw [HL.out]
      go_enter Try.func29, Try.ntmps29
      go_wp2_with (first | (go_at_call 110; ((with_reducible refine (isChain_any _ _ _ _ _ ha hn).mono ?_); rintro e w' ⟨rfl, rfl⟩)) | (go_at_call 116; ((with_reducible refine (copyInts_any _ _ _ _ _ ha hn).mono ?_); rintro e w' ⟨B, m, d, x, rfl, rfl, ob⟩; obtain rfl : m = 0 := ob.len.symm.trans rfl)) | (go_at_call 111; ((with_reducible refine (linkOf_any _ _ _ hs40 (by omega) (by omega)).mono ?_); rintro e w' ⟨rfl, rfl⟩)) | (at_builtin; (refine wpl_push_int w _ _ _ ?_ rfl _ _ rfl B 0 d _ rfl ob ?_ ?_ rfl hn2 ?_); (focus (first | rfl | (simp; done))); (focus (repeat (first | exact Below.refl _ _ | assumption | refine bExt ?_ _ | refine bAlloc ?_ _ | refine bDrewN ?_ _ | refine bDrew ?_ | refine bSet ?_ (by first | exact Nat.le_refl _ | omega | (simp; done) | (simp; omega)) _))); (focus (repeat (first | exact Below.refl _ _ | assumption | refine bExt ?_ _ | refine bAlloc ?_ _ | refine bDrewN ?_ _ | refine bDrew ?_ | refine bSet ?_ (by first | exact Nat.le_refl _ | omega | (simp; done) | (simp; omega)) _))); intro A' c' y ho hg hd))
      go_ret2
      exact RetIB.mk_ ho (Nat.le_refl _) (ext_below _ _)
end Go.Proofs.Ytppcmnolkbobfaa
