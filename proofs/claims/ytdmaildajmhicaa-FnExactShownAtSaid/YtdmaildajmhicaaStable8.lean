/- The library's SortStableFunc of ints, and the closure that orders a board. Conditions: lengths below 2^40. -/
import Derived.Test.YtdmaildajmhicaaStable7
set_option linter.unusedVariables false
set_option linter.unusedSimpArgs false
set_option maxRecDepth 100000
namespace Go.Proofs.Ytdmaildajmhicaa
open Go.RowKit
theorem insSort0 (w : World) (D : Option Addr) (c : Nat) (p : Addr) : Calls Try.prog 108 #[.slice D 0 c, .int .i64 0, .int .i64 0, (.func (.func 89) #[] #[.pointer (some p)])] w fun e w' => e = .returned (.tuple #[]) ∧ w = w' := by
  go_enter Try.func108, Try.ntmps108
  go_wp2
  go_loopw [8] (fun i wr => i = .int .i64 1 ∧ wr = w) (fun i _ => 0)
  case atStart => exact ⟨rfl, rfl⟩
  case round =>
    obtain ⟨rfl, rfl⟩ := hrel
    go_wp2
    go_end0
    exact ⟨rfl, rfl⟩
theorem stable0 (w : World) (D : Option Addr) (c : Nat) (p : Addr) : Calls Try.prog 103 #[.slice D 0 c, .int .i64 0, (.func (.func 89) #[] #[.pointer (some p)])] w fun e w' => e = .returned (.tuple #[]) ∧ w = w' := by
  go_enter Try.func103, Try.ntmps103
  go_wp2
  go_loopw [7, 8] (fun u v wr => u = .int .i64 0 ∧ v = .int .i64 20 ∧ wr = w) (fun _ _ _ => 0)
  case atStart => exact ⟨rfl, rfl, rfl⟩
  case round =>
    obtain ⟨rfl, rfl, rfl⟩ := hrel
    have cI := insSort0 wr D c p
    go_wp2_with ((go_at_call 108; ((with_reducible refine (cI).mono ?_); rintro e w' ⟨rfl, rfl⟩)))
    go_loopw [6] (fun t ws => t = .int .i64 20 ∧ ws = wr) (fun _ _ => 0)
    case atStart => exact ⟨rfl, rfl⟩
    case round =>
      obtain ⟨rfl, rfl⟩ := hrel
      go_wp2
      go_end0
      exact ⟨rfl, rfl⟩
theorem sortStable0 (w : World) (D : Option Addr) (c : Nat) (p : Addr) : Calls Try.prog 88 #[.slice D 0 c, (.func (.func 89) #[] #[.pointer (some p)])] w fun e w' => e = .returned (.tuple #[]) ∧ w = w' := by
  have cS := stable0 w D c p
  go_enter Try.func88, Try.ntmps88
  go_wp2_with ((go_at_call 103; ((with_reducible refine (cS).mono ?_); rintro e w' ⟨rfl, rfl⟩)))
  go_end0
  exact ⟨rfl, rfl⟩
theorem sortStable_any (w : World) (base g n c : Nat) (L : List Int) (key : Int → Int) (p : Addr) (ho : OwI base w (some ⟨g, 0, none⟩) n c L) (hn : n ≤ 1099511627776) (hC : CmpI 89 (.pointer (some p)) key L (some g) w) :
    Calls Try.prog 88 #[.slice (some ⟨g, 0, none⟩) n c, (.func (.func 89) #[] #[.pointer (some p)])] w (StPost key base g n c L w) := by
  have cS := stable_any w base g n c L key p ho hn hC
  go_enter Try.func88, Try.ntmps88
  go_wp2_with ((go_at_call 103; ((with_reducible refine (cS).mono ?_); rintro e w' ⟨rfl, h1⟩)))
  go_end0
  exact ⟨rfl, h1⟩
theorem boardF_any (w : World) (q b off n cs : Nat) (S : List Int) (x y : Nat) (hx : x < n) (hy : y < n) (hS : ∀ j, j < n → w.cell? ⟨b, off + j, none⟩ = some (.int .i64 (S[j]?.getD 0))) (hb : ∀ j : Nat, 0 ≤ S[j]?.getD 0 ∧ S[j]?.getD 0 ≤ 100000) (hc : w.cell? ⟨q, 0, none⟩ = some (.slice (some ⟨b, off, none⟩) n cs)) :
    Calls Try.prog 89 #[.int .i64 x, .int .i64 y, .pointer (some ⟨q, 0, none⟩)] w fun e w' => e = .returned (.int .i64 (S[y]?.getD 0 - S[x]?.getD 0)) ∧ ∃ m, w' = w.drewN m := by
  have c1 := hS x hx
  have c2 := hS y hy
  have b1 := hb x
  have b2 := hb y
  clear hS hb
  generalize S[x]?.getD 0 = u at *
  generalize S[y]?.getD 0 = v at *
  have hw : IntKind.i64.wrap (v - u) = v - u := IntWalk.i64_in _ (by omega)
  have hxI : (x : Int) < n := by omega
  have hyI : (y : Int) < n := by omega
  go_enter Try.func89, Try.ntmps89
  go_wp2
  go_quiet (fail)
  go_wp2
  go_ret
  first | exact ⟨rfl, _, rfl⟩ | simp
end Go.Proofs.Ytdmaildajmhicaa
