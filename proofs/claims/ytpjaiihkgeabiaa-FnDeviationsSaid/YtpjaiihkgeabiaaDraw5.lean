/- What the reference draws for the laws on drifts. Conditions: inputs below 2^40 bytes. -/
import Derived.Test.YtpjaiihkgeabiaaDraw4
set_option linter.unusedVariables false
set_option linter.unusedSimpArgs false
set_option maxRecDepth 100000
namespace Go.Proofs.Ytpjaiihkgeabiaa
open Go.RowKit
theorem cx_new {w : World} {A : Option Addr} {n c : Nat} {l : List Int} (hr : RdY w A n l) (hn : n ≤ 9223372036854775807) : Cx w (w.alloc (.cells #[.slice A n c, .int .i64 0, .int .u64 0] 47)) w.heap.size A n c 0 l := by
  refine ⟨⟨0, 0, by omega, ?_⟩, hr, bAlloc (Below.refl _ _) _, Nat.le_refl _, hn⟩
  exact heap_alloc_new w _
def RetD1 (w : World) (e : Ending) (w' : World) : Prop := ∃ (A : Option Addr) (n c : Nat) (L : List Int) (x : World), e = .returned (.slice A n c) ∧ n ≤ 1000 ∧ w' = ext w x ∧ OwI w.heap.size (ext w x) A n c L
def RetD2 (w : World) (e : Ending) (w' : World) : Prop := ∃ (A : Option Addr) (n c : Nat) (L : List Int) (B : Option Addr) (m d : Nat) (M : List Int) (x : World), e = .returned (.tuple #[.slice A n c, .slice B m d]) ∧ (n ≤ 1000 ∧ m ≤ 1000) ∧ w' = ext w x ∧ OwI w.heap.size (ext w x) A n c L ∧ OwI w.heap.size (ext w x) B m d M
def RetD1I (w : World) (e : Ending) (w' : World) : Prop := ∃ (A : Option Addr) (n c : Nat) (L : List Int) (i : Int) (x : World), e = .returned (.tuple #[.slice A n c, .int .i64 i]) ∧ n ≤ 1000 ∧ w' = ext w x ∧ OwI w.heap.size (ext w x) A n c L
end Go.Proofs.Ytpjaiihkgeabiaa
