/- What the reference draws for the laws on drifts. Conditions: inputs below 2^40 bytes. -/
import Derived.Test.YtppcmnolkbobfaaDraw4
set_option linter.unusedVariables false
set_option linter.unusedSimpArgs false
set_option maxRecDepth 100000
namespace Go.Proofs.Ytppcmnolkbobfaa
open Go.RowKit
theorem cx_new {w : World} {A : Option Addr} {n c : Nat} {l : List Int} (hr : RdY w A n l) (hn : n ≤ 9223372036854775807) : Cx w (w.alloc (.cells #[.slice A n c, .int .i64 0, .int .u64 0] 103)) w.heap.size A n c 0 l := by
  refine ⟨⟨0, 0, by omega, ?_⟩, hr, bAlloc (Below.refl _ _) _, Nat.le_refl _, hn⟩
  exact heap_alloc_new w _
def RetD1 (w : World) (e : Ending) (w' : World) : Prop := ∃ (A : Option Addr) (n c : Nat) (L : List Int) (x : World), e = .returned (.slice A n c) ∧ n ≤ 1000 ∧ w' = ext w x ∧ OwI w.heap.size (ext w x) A n c L
def RetD2 (w : World) (e : Ending) (w' : World) : Prop := ∃ (A : Option Addr) (n c : Nat) (L : List Int) (B : Option Addr) (m d : Nat) (M : List Int) (x : World), e = .returned (.tuple #[.slice A n c, .slice B m d]) ∧ (n ≤ 1000 ∧ m ≤ 1000) ∧ w' = ext w x ∧ OwI w.heap.size (ext w x) A n c L ∧ OwI w.heap.size (ext w x) B m d M
def RetD1I (w : World) (e : Ending) (w' : World) : Prop := ∃ (A : Option Addr) (n c : Nat) (L : List Int) (i : Int) (x : World), e = .returned (.tuple #[.slice A n c, .int .i64 i]) ∧ n ≤ 1000 ∧ w' = ext w x ∧ OwI w.heap.size (ext w x) A n c L
theorem drawSlopeOf_any (w : World) (A : Option Addr) (n c : Nat) (l : List Int) (hr : RdY w A n l) (hn : n ≤ 9223372036854775807) :
    Calls Try.prog 17 #[.slice A n c] w (RetD1 w) := by
  have h := cx_new (c := c) hr hn
  go_enter Try.func17, Try.ntmps17
  go_wp2_with fail
  refine (series_any h (by omega)).mono ?_
  rintro e w1 ⟨D, q, z, L, rfl, hq, h1, o1, hN, hG⟩
  go_wp2
  go_ret
  obtain ⟨x, rfl⟩ := ext_ex h1.bel
  exact ⟨D, q, z, L, x, rfl, hq, rfl, o1⟩
theorem drawBiasOf_any (w : World) (A : Option Addr) (n c : Nat) (l : List Int) (hr : RdY w A n l) (hn : n ≤ 9223372036854775807) :
    Calls Try.prog 14 #[.slice A n c] w (RetD2 w) := by
  have h := cx_new (c := c) hr hn
  have hg : w.heap.size < (w.alloc (.cells #[.slice A n c, .int .i64 0, .int .u64 0] 103)).heap.size := by simp
  go_enter Try.func14, Try.ntmps14
  go_wp2_with fail
  refine (series_any h (by omega)).mono ?_
  rintro e w1 ⟨D, q, z, L, rfl, hq, h1, o1, hN, hG⟩
  go_wp2_with fail
  refine (series_any h1 (by omega)).mono ?_
  rintro e w2 ⟨D2, q2, z2, L2, rfl, hq2, h2, o2, hN2, hG2⟩
  have o1' := o1.kept hG2 (hN.ne hg)
  go_wp2
  go_ret2
  obtain ⟨x, rfl⟩ := ext_ex h2.bel
  exact ⟨D, q, z, L, D2, q2, z2, L2, x, rfl, ⟨hq, hq2⟩, rfl, o1', o2⟩
theorem drawFirstDrift_any (w : World) (A : Option Addr) (n c : Nat) (l : List Int) (hr : RdY w A n l) (hn : n ≤ 9223372036854775807) :
    Calls Try.prog 9 #[.slice A n c] w (RetD1I w) := by
  have h := cx_new (c := c) hr hn
  have hg : w.heap.size < (w.alloc (.cells #[.slice A n c, .int .i64 0, .int .u64 0] 103)).heap.size := by simp
  go_enter Try.func9, Try.ntmps9
  go_wp2_with fail
  refine (series_any h (by omega)).mono ?_
  rintro e w1 ⟨D, q, z, L, rfl, hq, h1, o1, hN, hG⟩
  go_wp2_with fail
  refine (pick_cx h1 90 (by omega) (by omega) (by omega)).mono ?_
  rintro e w2 ⟨r2, ⟨ha0, ha1⟩, rfl, hC2, hg2⟩
  have h2 := h1.grow hC2 hg2
  have o2 := o1.kept hg2 (hN.ne hg)
  go_wp2_with fail
  refine (among_cx (h2.below (bAlloc (Below.refl _ w2) _)) 7 7 [0, 3, 8, r2, 1000000, 1000001, -1] (by omega) (int_lit [0, 3, 8, r2, 1000000, 1000001, -1] (by simp [maxLen]) _ rfl) h2.cur.lt (by omega) (by omega)).mono ?_
  rintro e w3 ⟨v3, hv3, rfl, hC3, hg3⟩
  have h3 := (h2.below (bAlloc (Below.refl _ w2) _)).grow hC3 hg3
  have o3 := (o2.below (bAlloc (Below.refl _ w2) _)).kept hg3 (hN.ne hg)
  clear hv3
  go_wp2
  go_ret2
  obtain ⟨x, rfl⟩ := ext_ex h3.bel
  exact ⟨D, q, z, L, v3, x, rfl, hq, rfl, o3⟩
end Go.Proofs.Ytppcmnolkbobfaa
