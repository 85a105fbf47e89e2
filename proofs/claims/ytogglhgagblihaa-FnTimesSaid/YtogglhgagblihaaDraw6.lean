/- What the reference draws for the laws on times. Conditions: none. -/
import Derived.Test.YtogglhgagblihaaDraw5
set_option linter.unusedVariables false
set_option linter.unusedSimpArgs false
set_option maxRecDepth 100000
namespace Go.Proofs.Ytogglhgagblihaa
open Go.RowKit
def RetII (w : World) (e : Ending) (w' : World) : Prop := ∃ (i j : Int) (x : World), e = .returned (.tuple #[.int .i64 i, .int .i64 j]) ∧ w' = ext w x
set_option maxHeartbeats 400000 in
theorem drawWarmUpGroups_any (w : World) (A : Option Addr) (n c : Nat) (l : List Int) (hr : RdY w A n l) (hn : n ≤ 9223372036854775807) :
    Calls Try.prog 16 #[.slice A n c] w (RetII w) := by
  have h := cx_new (c := c) hr hn
  have hg : w.heap.size < (w.alloc (.cells #[.slice A n c, .int .i64 0, .int .u64 0] 74)).heap.size := by simp
  go_enter Try.func16, Try.ntmps16
  go_wp2_with fail
  have hs : (w.alloc (.cells #[.slice A n c, .int .i64 0, .int .u64 0] 74)).heap.size = w.heap.size + 1 := by simp
  generalize w.alloc (.cells #[.slice A n c, .int .i64 0, .int .u64 0] 74) = W0 at *
  have rl := int_lit (w := W0) [1, 2, 5, 7, 9, 13, 24, 40, 41, 0] (by simp [maxLen]) #[.int .i64 1, .int .i64 2, .int .i64 5, .int .i64 7, .int .i64 9, .int .i64 13, .int .i64 24, .int .i64 40, .int .i64 41, .int .i64 0] rfl
  rw [hs] at rl
  have hb0 := h.below (bAlloc (Below.refl W0.heap.size W0) (.cells #[.int .i64 1, .int .i64 2, .int .i64 5, .int .i64 7, .int .i64 9, .int .i64 13, .int .i64 24, .int .i64 40, .int .i64 41, .int .i64 0] 3))
  refine (among_cx hb0 10 10 [1, 2, 5, 7, 9, 13, 24, 40, 41, 0] (by omega) rl (by omega) (by omega) (by omega)).mono ?_
  rintro e w3 ⟨v3, hv3, rfl, hC3, hg3⟩
  have h3 := hb0.grow hC3 hg3
  clear hv3 rl hs
  go_wp2_with fail
  refine (pick_cx h3 10 (by omega) (by omega) (by omega)).mono ?_
  rintro e w4 ⟨r4, ⟨ha0, ha1⟩, rfl, hC4, hg4⟩
  have h4 := h3.grow hC4 hg4
  go_wp2
  go_ret2
  obtain ⟨x, rfl⟩ := ext_ex h4.bel
  exact ⟨v3, r4, x, rfl, rfl⟩
end Go.Proofs.Ytogglhgagblihaa
