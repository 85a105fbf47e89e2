/- The library's SortStableFunc of cues, and the closure that orders a board. Conditions: lengths below 2^40. -/
import Derived.Test.YtpjaiihkgeabiaaDoorStableC7
set_option linter.unusedVariables false
set_option linter.unusedSimpArgs false
set_option maxRecDepth 100000
namespace Go.Proofs.YtpjaiihkgeabiaaDoor
open Go.RowKit
theorem insSortC0 (w : World) (D : Option Addr) (c : Nat) (p : Addr) : Calls Tryd.prog 125 #[.slice D 0 c, .int .i64 0, .int .i64 0, (.func (.func 101) #[] #[])] w fun e w' => e = .returned (.tuple #[]) ∧ w = w' := by
  go_enter Tryd.func125, Tryd.ntmps125
  go_wp2
  go_loopw [8] (fun i wr => i = .int .i64 1 ∧ wr = w) (fun i _ => 0)
  case atStart => exact ⟨rfl, rfl⟩
  case round =>
    obtain ⟨rfl, rfl⟩ := hrel
    go_wp2
    go_end0
    exact ⟨rfl, rfl⟩
theorem stableC0 (w : World) (D : Option Addr) (c : Nat) (p : Addr) : Calls Tryd.prog 116 #[.slice D 0 c, .int .i64 0, (.func (.func 101) #[] #[])] w fun e w' => e = .returned (.tuple #[]) ∧ w = w' := by
  go_enter Tryd.func116, Tryd.ntmps116
  go_wp2
  go_loopw [7, 8] (fun u v wr => u = .int .i64 0 ∧ v = .int .i64 20 ∧ wr = w) (fun _ _ _ => 0)
  case atStart => exact ⟨rfl, rfl, rfl⟩
  case round =>
    obtain ⟨rfl, rfl, rfl⟩ := hrel
    have cI := insSortC0 wr D c p
    go_wp2_with ((go_at_call 125; ((with_reducible refine (cI).mono ?_); rintro e w' ⟨rfl, rfl⟩)))
    go_loopw [6] (fun t ws => t = .int .i64 20 ∧ ws = wr) (fun _ _ => 0)
    case atStart => exact ⟨rfl, rfl⟩
    case round =>
      obtain ⟨rfl, rfl⟩ := hrel
      go_wp2
      go_end0
      exact ⟨rfl, rfl⟩
theorem sortStableC0 (w : World) (D : Option Addr) (c : Nat) (p : Addr) : Calls Tryd.prog 100 #[.slice D 0 c, (.func (.func 101) #[] #[])] w fun e w' => e = .returned (.tuple #[]) ∧ w = w' := by
  have cS := stableC0 w D c p
  go_enter Tryd.func100, Tryd.ntmps100
  go_wp2_with ((go_at_call 116; ((with_reducible refine (cS).mono ?_); rintro e w' ⟨rfl, rfl⟩)))
  go_end0
  exact ⟨rfl, rfl⟩
theorem sortStableC_any (w : World) (base g n c : Nat) (L : List T3) (key : T3 → Int) (p : Addr) (ho : OwC base w (some ⟨g, 0, none⟩) n c L) (hn : n ≤ 1099511627776) (hC : CmpC key L) :
    Calls Tryd.prog 100 #[.slice (some ⟨g, 0, none⟩) n c, (.func (.func 101) #[] #[])] w (StPostC key base g n c L w) := by
  have cS := stableC_any w base g n c L key p ho hn hC
  go_enter Tryd.func100, Tryd.ntmps100
  go_wp2_with ((go_at_call 116; ((with_reducible refine (cS).mono ?_); rintro e w' ⟨rfl, h1⟩)))
  go_end0
  exact ⟨rfl, h1⟩
end Go.Proofs.YtpjaiihkgeabiaaDoor
