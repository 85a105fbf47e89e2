/- Plain facts for the law FnSeals: a seal holds for its own key, a branch is where two chains differ, joined records begin with the first ones. Conditions: none. -/
import Derived.Test.YtpjaiihkgeabiaaDoorChainQ
import Derived.Test.YtpjaiihkgeabiaaDoorSealL
import Derived.Test.YtpjaiihkgeabiaaDoorLawKit
set_option linter.unusedVariables false
set_option linter.unusedSimpArgs false
set_option maxRecDepth 100000
namespace Go.Proofs.YtpjaiihkgeabiaaDoor
open Go.RowKit
theorem seal_own {k : Int} {l : List Int} (h : sealOk k l = true) : holdOk k l (sealR k l) = true ∧ holdR k l (sealR k l) = true := by
  have h' := h
  simp only [sealOk, Bool.and_eq_true] at h'
  have h1 : sealR k l = sealN k l := by simp [sealR, h]
  have h2 : holdOk k l (sealN k l) = true := by
    simp only [holdOk, Bool.and_eq_true]
    exact ⟨h'.1, h'.2, inB_iff.2 (digest_bd _)⟩
  rw [h1]
  exact ⟨h2, by simp [holdR, h2]⟩
theorem comLen_swap : ∀ a b : List Int, comLen a b = comLen b a
  | [], [] => rfl
  | [], _ :: _ => rfl
  | _ :: _, [] => rfl
  | x :: xs, y :: ys => by
    by_cases e : x = y
    · subst e; simp [comLen, comLen_swap xs ys]
    · have e2 : ¬ y = x := fun h => e h.symm
      simp [comLen, e, e2]
theorem sameB_swap (a b : List Int) : sameB a b = sameB b a :=
  Bool.eq_iff_iff.2 ⟨fun h => sameB_iff.2 (sameB_iff.1 h).symm, fun h => sameB_iff.2 (sameB_iff.1 h).symm⟩
theorem branchOk_swap (a b : List Int) : branchOk a b = branchOk b a := by
  unfold branchOk
  rw [sameB_swap a b, Bool.and_comm (chainB a) (chainB b)]
theorem branchV_swap (a b : List Int) : branchV a b = branchV b a := by
  unfold branchV
  rw [branchOk_swap a b, comLen_swap a b]
theorem comLen_facts : ∀ a b : List Int, comLen a b ≤ a.length ∧ comLen a b ≤ b.length ∧ a.take (comLen a b) = b.take (comLen a b) ∧ (comLen a b < a.length → comLen a b < b.length → a[comLen a b]?.getD 0 ≠ b[comLen a b]?.getD 0)
  | [], [] => by simp [comLen]
  | [], _ :: _ => by simp [comLen]
  | _ :: _, [] => by simp [comLen]
  | x :: xs, y :: ys => by
    by_cases e : x = y
    · subst e
      obtain ⟨h1, h2, h3, h4⟩ := comLen_facts xs ys
      have he : comLen (x :: xs) (x :: ys) = comLen xs ys + 1 := by simp [comLen]
      rw [he]
      refine ⟨by simp; exact h1, by simp; exact h2, by simp [h3], fun g1 g2 => ?_⟩
      simp only [List.length_cons] at g1 g2
      simpa using h4 (by omega) (by omega)
    · have he : comLen (x :: xs) (y :: ys) = 0 := by simp [comLen, e]
      rw [he]
      exact ⟨by omega, by omega, by simp, fun _ _ => by simpa using e⟩
theorem branch_facts {a b : List Int} (h : branchOk a b = true) : ∃ k : Nat, branchV a b = k ∧ k ≤ a.length ∧ k ≤ b.length ∧ a.take k = b.take k ∧ (k < a.length → k < b.length → (a[k]?.getD 0 == b[k]?.getD 0) = false) := by
  obtain ⟨h1, h2, h3, h4⟩ := comLen_facts a b
  exact ⟨comLen a b, by simp [branchV, h], h1, h2, h3, fun g1 g2 => by simpa using h4 g1 g2⟩
theorem join_facts {a b : List ByteArray} (h : joinOk a b = true) : recsB (joinL a b) = true ∧ joinC a b = chainV (joinL a b) ∧ a.length ≤ (joinL a b).length ∧ (joinL a b).take a.length = a := by
  have h' := h
  simp only [joinOk, Bool.and_eq_true, decide_eq_true_eq] at h'
  obtain ⟨⟨h1, h2⟩, h3⟩ := h'
  have hL : joinL a b = joinTo a b b.length := by simp [joinL, h]
  have hC : joinC a b = chainV (joinTo a b b.length) := by simp [joinC, h]
  rw [hL, hC]
  refine ⟨?_, rfl, by simp [joinTo], by simp [joinTo]⟩
  simp only [recsB, Bool.and_eq_true, decide_eq_true_eq]
  exact ⟨List.all_eq_true.2 fun s hs => decide_eq_true (joinTo_sz (recsB_of h1).1 (recsB_of h2).1 _ s hs), h3⟩
set_option maxHeartbeats 1000000 in
theorem sameInts_draw (w : World) (A B : Option Addr) (n m c d : Nat) (l : List Int) (ha : RdI w A n l) (hb : RdI w B m l) (hn : n ≤ 1099511627776) :
    Calls Tryd.prog 15 #[.slice A n c, .slice B m d] w fun e w' => e = .returned (.bool true) ∧ ∃ q, w' = w.drewN q := by
  obtain rfl : n = m := ha.len.symm.trans hb.len
  go_enter Tryd.func15, Tryd.ntmps15
  go_wp2
  go_loopw [5, 13] (fun _ i wr => ∃ k q, k ≤ n ∧ i = .int .i64 (k : Nat) ∧ wr = w.drewN q) (fun _ i _ => n - (intOf i).toNat)
  case atStart => exact ⟨0, 0, Nat.zero_le _, rfl, rfl⟩
  case round =>
    obtain ⟨k, q, hk, rfl, rfl⟩ := hrel
    by_cases hlt : k < n
    · obtain ⟨b1, o1, rfl, hb1, hc1⟩ := ha.open_ (by omega)
      obtain ⟨b2, o2, rfl, hb2, hc2⟩ := hb.open_ (by omega)
      have hq1 := hc1 k hlt
      have hq2 := hc2 k hlt
      clear hc1 hc2
      generalize l.getD k 0 = sk at *
      go_wp2
      go_quiet (fail)
      go_wp2
      go_roundw
      case rel => exact ⟨k + 1, _, by omega, by go_num, rfl⟩
      case measure => simp [intOf]; omega
    · go_wp2
      go_ret
      exact ⟨rfl, _, rfl⟩
theorem sameInts_left {w : World} {A B : Option Addr} {n m c d : Nat} {l : List Int} {q : Nat} (ha : RdI w A n l) (hb : RdI w B m l) (hn : n ≤ 1099511627776) :
    Calls Tryd.prog 15 #[.slice A n c, .slice B m d] (w.drewN q) fun e w'' => e = .returned (.bool true) ∧ ∃ k, w'' = w.drewN k :=
  (sameInts_draw (w.drewN q) A B n m c d l (ha.below (bDrewN (Below.refl _ _) _)) (hb.below (bDrewN (Below.refl _ _) _)) hn).mono fun e w' ⟨he, k, hk⟩ => ⟨he, q + k, by rw [hk, World.drewN_drewN]⟩
end Go.Proofs.YtpjaiihkgeabiaaDoor
