/- The laws' own sum of a row of ints, and a row compared with itself. Conditions: elements within 100000. -/
import Derived.Test.YtogglhgagblihaaStatsP
import Derived.Test.YtogglhgagblihaaInts
set_option linter.unusedVariables false
set_option linter.unusedSimpArgs false
set_option maxRecDepth 100000
namespace Go.Proofs.Ytogglhgagblihaa
open Go.RowKit
set_option maxHeartbeats 400000 in
theorem qSum_any (w : World) (A : Option Addr) (n c : Nat) (l : List Int) (ha : RdI w A n l) (hn : n ≤ 1000) (hb : ∀ x ∈ l, -100000 ≤ x ∧ x ≤ 100000) :
    Calls Try.prog 24 #[.slice A n c] w fun e w' => e = .returned (.int .i64 (sumTo l n)) ∧ w = w' := by
  have Hl := Lib.hid ha.len
  go_enter Try.func24, Try.ntmps24
  go_wp2
  go_loop [3, 5, 8] (fun t _ i => ∃ k : Nat, k ≤ n ∧ i = .int .i64 k ∧ t = .int .i64 (sumTo l k)) (fun _ _ i => n - (intOf i).toNat)
  case atStart => exact ⟨0, by omega, rfl, rfl⟩
  case round =>
    obtain ⟨k, hk, rfl, rfl⟩ := hrel
    by_cases hlt : k < n
    · obtain ⟨b, off, rfl, hb0, hc⟩ := ha.open_ (by omega)
      have hck := hc k hlt
      rw [List.getD_eq_getElem?_getD] at hck
      have h1 := sumTo_bd (by omega) hb k
      have h2 := hb _ (getD_mem 0 l k (by rw [Hl.out]; exact hlt))
      have HS := Lib.hid (sumTo_succ l k (by rw [Hl.out]; exact hlt))
      clear hc
      generalize l[k]?.getD 0 = x at *
      generalize sumTo l k = s at *
      go_wp2
      go_round
      case rel => exact ⟨k + 1, by omega, by go_num, by rw [HS.out]⟩
      case measure => simp [intOf]; omega
    · have hkn := Lib.hid (show k = n by omega)
      go_wp2
      go_ret
      exact ⟨ret_int (by rw [hkn.out]), rfl⟩
theorem qInts_self (w : World) (A B : Option Addr) (n m c d : Nat) (l : List Int) (ha : RdI w A n l) (hb : RdI w B m l) (hn : n ≤ 1099511627776) :
    Calls Try.prog 19 #[.slice A n c, .slice B m d] w fun e w' => e = .returned (.bool true) ∧ ∃ x, w' = ext w x :=
  (qInts_any w A B n m c d l l ha hb hn).mono fun e w' h => ⟨by rw [h.1, sameB_iff.2 rfl], h.2⟩
set_option maxHeartbeats 400000 in
theorem qIntsQ_any (w : World) (A B : Option Addr) (n m c d : Nat) (l : List Int) (ha : RdI w A n l) (hb : RdI w B m l) (hn : n ≤ 1099511627776) :
    Calls Try.prog 19 #[.slice A n c, .slice B m d] w fun e w' => e = .returned (.bool true) ∧ ∃ q, w' = w.drewN q := by
  obtain rfl : n = m := ha.len.symm.trans hb.len
  go_enter Try.func19, Try.ntmps19
  go_wp2
  go_loopw [5, 13] (fun _ i wr => ∃ k q, k ≤ n ∧ i = .int .i64 (k : Nat) ∧ wr = w.drewN q) (fun _ i _ => n - (intOf i).toNat)
  case atStart => exact ⟨0, 0, Nat.zero_le _, rfl, rfl⟩
  case round =>
    obtain ⟨k, q, hk, rfl, rfl⟩ := hrel
    by_cases hlt : k < n
    · obtain ⟨b1, o1, rfl, hb1, hc1⟩ := ha.open_ (by omega)
      obtain ⟨b2, o2, rfl, hb2, hc2⟩ := hb.open_ (by omega)
      have hq1 := hc1 k hlt
      have hq2 := hc2 k hlt
      clear hc1 hc2
      generalize l.getD k 0 = sk at *
      go_wp2
      go_quiet (fail)
      go_wp2
      go_roundw
      case rel => exact ⟨k + 1, _, by omega, by go_num, rfl⟩
      case measure => simp [intOf]; omega
    · go_wp2
      go_ret
      exact ⟨rfl, _, rfl⟩
theorem qIntsQ_left {w : World} {A B : Option Addr} {n m c d : Nat} {l : List Int} {q : Nat} (ha : RdI w A n l) (hb : RdI w B m l) (hn : n ≤ 1099511627776) :
    Calls Try.prog 19 #[.slice A n c, .slice B m d] (w.drewN q) fun e w'' => e = .returned (.bool true) ∧ ∃ k, w'' = w.drewN k :=
  (qIntsQ_any (w.drewN q) A B n m c d l (ha.below (bDrewN (Below.refl _ _) _)) (hb.below (bDrewN (Below.refl _ _) _)) hn).mono fun e w' ⟨he, k, hk⟩ => ⟨he, q + k, by rw [hk, World.drewN_drewN]⟩
end Go.Proofs.Ytogglhgagblihaa
