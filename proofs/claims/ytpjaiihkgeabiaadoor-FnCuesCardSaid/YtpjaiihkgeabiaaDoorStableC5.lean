/- The library's symMerge of cues, all cases, by induction. Conditions: lengths below 2^40. -/
import Derived.Test.YtpjaiihkgeabiaaDoorStableC4
set_option linter.unusedVariables false
set_option linter.unusedSimpArgs false
set_option maxRecDepth 100000
namespace Go.Proofs.YtpjaiihkgeabiaaDoor
open Go.RowKit
theorem symMergeC_ok (base g n c : Nat) (key : T3 → Int) (p : Addr) (hn : n ≤ 1099511627776) : ∀ K, SymOkC key p base g n c K
  | 0 => fun w P X Y S a m b _ _ _ _ _ _ h _ _ _ => absurd h (Nat.not_lt_zero _)
  | K + 1 => fun w P X Y S a m b ho ha hm hb hx hy hk hX hY hC => by
    by_cases h1 : X.length = 1
    · obtain ⟨x, rfl⟩ := List.length_eq_one_iff.1 h1
      have e : P ++ [x] ++ Y ++ S = insT P Y x S 0 := by simp [insT]
      rw [e] at ho hC
      exact symLC_any w base g n c P Y S x a m b key p ho hn ha (by simp at hm; omega) hb hY hC
    · by_cases h2 : Y.length = 1
      · obtain ⟨x, rfl⟩ := List.length_eq_one_iff.1 h2
        have e : P ++ X ++ [x] ++ S = insT P X x S X.length := by simp [insT]
        rw [e] at ho hC
        exact symRC_any w base g n c P X S x a m b key p ho hn ha hm (by simp at hb; omega) h1 hX hC
      · have ih := symMergeC_ok base g n c key p hn K
        have hIH : SymOkC key p base g n c (X.length + Y.length) := fun w P X' Y' S a m b k1 k2 k3 k4 k5 k6 k7 => ih w P X' Y' S a m b k1 k2 k3 k4 k5 k6 (by omega)
        exact symGC_any w base g n c P X Y S a m b key p ho hn ha hm hb (by omega) (by omega) hX hY hC hIH
end Go.Proofs.YtpjaiihkgeabiaaDoor
