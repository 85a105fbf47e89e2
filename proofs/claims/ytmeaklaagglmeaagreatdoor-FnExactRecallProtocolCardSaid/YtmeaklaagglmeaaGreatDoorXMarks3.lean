/- Equality and marking of slices of slices of ints and of Marks in the law file; opening of such arguments. Conditions: lengths below 2^40. -/
import Derived.Test.YtmeaklaagglmeaaGreatDoorXMarks2
set_option linter.unusedVariables false
set_option linter.unusedSimpArgs false
set_option maxRecDepth 100000
namespace Go.Proofs.YtmeaklaagglmeaaGreatDoor
open Go.ChangeShapes Go.WideShapes Go.ChangeAt Go.RowKit
set_option maxHeartbeats 400000 in
theorem eqIntSS_any (w : World) (A B : Option Addr) (n m c d : Nat) (ll : List (List Int)) (ha : RdM w A n ll) (hb : RdM w B m ll) (hn : n ≤ 1099511627776) (hrows : ∀ j, j < n → (ll[j]?.getD []).length ≤ 1099511627776) :
  Calls Tryz.prog 117 #[.slice A n c, .slice B m d] w fun e w' => e = .returned (.bool true) ∧ ∃ x, w' = ext w x := by
 have Hl := Lib.hid ha.len
 obtain rfl : n = m := ha.len.symm.trans hb.len
 go_enter Tryz.func117, Tryz.ntmps117
 go_wp2
 go_loopw [5] (fun i wr => ∃ k x, k ≤ n ∧ i = .int .i64 (k : Nat) ∧ wr = ext w x) (fun i _ => n - (intOf i).toNat)
 case atStart => exact ⟨0, _, Nat.zero_le _, rfl, (ext_self w)⟩
 case round =>
  obtain ⟨k, x, hk, rfl, rfl⟩ := hrel
  by_cases hlt : k < n
  ·
   obtain ⟨b1, o1, rfl, hb1, hc1⟩ := ha.2 (by omega)
   obtain ⟨b2, o2, rfl, hb2, hc2⟩ := hb.2 (by omega)
   obtain ⟨B1, m1, d1, hk1, hr1, _, _⟩ := hc1 k hlt
   obtain ⟨B2, m2, d2, hk2, hr2, _, _⟩ := hc2 k hlt
   have hmb : m1 ≤ 1099511627776 := by have := hrows k hlt; rw [hr1.len] at this; exact this
   clear hc1 hc2
   generalize ll[k]?.getD [] = lk at *
   have hbe : (lk == lk) = true := by simp
   go_wp2
   go_region_held3 (fun w' => w'.cell? ⟨b1, o1 + k, none⟩ = some (.slice B1 m1 d1) ∧ w'.cell? ⟨b2, o2 + k, none⟩ = some (.slice B2 m2 d2)) (first | (refine ⟨?_, ?_⟩ <;> simp [go_sem, hb1, hb2, hk1, hk2]; done))
    (first
     | (go_at_call 60; ((with_reducible refine (eqIntS_any _ _ _ _ _ _ _ _ _ (hr1.below bl) (hr2.below bl) hmb).mono ?_); rintro e w' ⟨rfl, y, rfl⟩)))
   go_wp2
   go_roundw
   case rel => exact ⟨k + 1, _, by omega, by go_num, (ext_ex bl).choose_spec⟩
   case measure => simp [intOf]; omega
  ·
   go_wp2
   go_ret
   exact ⟨rfl, _, rfl⟩
theorem gSetM (w : World) (g k : Nat) (v : Value) : w.grownBy (w.setCell ⟨g, k, none⟩ v) (some g) :=
 ⟨rfl, rfl, rfl, by simp [World.setCell], fun j _ hne => Below.heap_setCell w ⟨g, k, none⟩ v j (fun e => hne (by rw [e]))⟩
section
variable {base hi n c : Nat} {w w' : World} {A : Option Addr} {ll : List (List Int)}
end
end Go.Proofs.YtmeaklaagglmeaaGreatDoor
