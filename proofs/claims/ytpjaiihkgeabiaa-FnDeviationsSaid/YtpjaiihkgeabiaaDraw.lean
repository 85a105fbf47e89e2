/- The reference's cursor: what next, pick, one, among do. Conditions: fewer than 2^40 choices, inputs below 2^40 bytes. -/
import Derived.Test.YtpjaiihkgeabiaaLawKit
import Derived.Test.YtpjaiihkgeabiaaInts
import Derived.Laws.Bits64b
import Derived.Laws.Rows
set_option linter.unusedVariables false
set_option linter.unusedSimpArgs false
set_option maxRecDepth 100000
namespace Go.Proofs.Ytpjaiihkgeabiaa
open Go.RowKit
/-- Block g is a cursor over (A, n, c) that has made at most k choices. -/
def CurW (w : World) (g : Nat) (A : Option Addr) (n c k : Nat) : Prop := ∃ (a : Nat) (s : Int), (a ≤ k ∧ 0 ≤ s ∧ s ≤ 18446744073709551615) ∧ w.heap[g]? = some (.cells #[.slice A n c, .int .i64 a, .int .u64 s] 47 (0, 0))
/-- A slice of bytes reads as the list. -/
def RdY (w : World) (A : Option Addr) (n : Nat) (l : List Int) : Prop := Rd 1 w A n (l.map (Value.int .u8)) ∧ ∀ x ∈ l, 0 ≤ x ∧ x ≤ 255
theorem RdY.below {w w' : World} {A : Option Addr} {n : Nat} {l : List Int} (h : RdY w A n l) (hb : Below w.heap.size w w') : RdY w' A n l := ⟨Rd.below h.1 hb, h.2⟩
theorem RdY.open_ {w : World} {A : Option Addr} {n : Nat} {l : List Int} (h : RdY w A n l) {k : Nat} (hk : k < n) : ∃ b off v, A = some ⟨b, off, none⟩ ∧ b < w.heap.size ∧ w.cell? ⟨b, off + k, none⟩ = some (.int .u8 v) ∧ 0 ≤ v ∧ v ≤ 255 := by
  have hl : l.length = n := by have := h.1.1; simpa using this
  obtain ⟨b, off, e, hlt, hc⟩ := h.1.2 (by omega)
  refine ⟨b, off, l[k]?.getD 0, e, hlt, hc k _ ?_, h.2 _ (getD_mem 0 l k (by omega))⟩
  simp [show k < l.length by omega]
theorem CurW.lt {w : World} {g : Nat} {A : Option Addr} {n c k : Nat} (h : CurW w g A n c k) : g < w.heap.size := by
  obtain ⟨a, s, _, h⟩ := h
  rcases Nat.lt_or_ge g w.heap.size with h' | h'
  · exact h'
  · simp [Array.getElem?_eq_none h'] at h
theorem CurW.mono {w : World} {g : Nat} {A : Option Addr} {n c k k' : Nat} (h : CurW w g A n c k) (hk : k ≤ k') : CurW w g A n c k' := by
  obtain ⟨a, s, ⟨h1, h2⟩, h3⟩ := h; exact ⟨a, s, ⟨by omega, h2⟩, h3⟩
theorem CurW.kept {w w' : World} {g : Nat} {A : Option Addr} {n c k : Nat} {row : Option Nat} (h : CurW w g A n c k) (hg : w.grownBy w' row) (hne : some g ≠ row) : CurW w' g A n c k := by
  have hlt := h.lt
  obtain ⟨a, s, h1, h3⟩ := h
  exact ⟨a, s, h1, (hg.block g hlt hne).trans h3⟩
theorem CurW.below {w w' : World} {g : Nat} {A : Option Addr} {n c k : Nat} (h : CurW w g A n c k) (hb : Below w.heap.size w w') : CurW w' g A n c k := h.kept (grownBy_of_below (row := none) hb) (by simp)
theorem cur_cells {w : World} {g : Nat} {x y z : Value} (h : w.heap[g]? = some (.cells #[x, y, z] 47 (0, 0))) : w.cell? ⟨g, 0, none⟩ = some x ∧ w.cell? ⟨g, 1, none⟩ = some y ∧ w.cell? ⟨g, 2, none⟩ = some z ∧ w.frozen? ⟨g, 1, none⟩ = false ∧ w.frozen? ⟨g, 2, none⟩ = false := by
  refine ⟨?_, ?_, ?_, ?_, ?_⟩ <;> simp [World.cell?, World.frozen?, h]
theorem cur_set {w : World} {g : Nat} {x y z y' z' : Value} (h : w.heap[g]? = some (.cells #[x, y, z] 47 (0, 0))) : ((w.setCell ⟨g, 1, none⟩ y').setCell ⟨g, 2, none⟩ z').heap[g]? = some (.cells #[x, y', z'] 47 (0, 0)) := by
  have h1 := heap_setCell_same w g 1 _ _ y' h
  exact heap_setCell_same _ g 2 _ _ z' h1
theorem cur_grown (w : World) (g i : Nat) (v : Value) : w.grownBy (w.setCell ⟨g, i, none⟩ v) (some g) :=
  ⟨rfl, rfl, rfl, by simp, fun k _ hk => Below.heap_setCell w _ v k (fun e => hk (by rw [e]))⟩
theorem u64_bd (x : Int) : 0 ≤ IntKind.u64.wrap x ∧ IntKind.u64.wrap x ≤ 18446744073709551615 := by rw [IntKind.wrap_u64]; omega
theorem cur_made {w : World} {g m q a k n c : Nat} {A : Option Addr} {s z : Int} (h : w.heap[g]? = some (.cells #[.slice A n c, .int .i64 a, .int .u64 s] 47 (0, 0))) (ha : a ≤ k) :
    CurW ((((w.drewN m).setCell ⟨g, 1, none⟩ (.int .i64 ((a : Int) + 1))).setCell ⟨g, 2, none⟩ (.int .u64 (IntKind.u64.wrap z))).drewN q) g A n c (k + 1) :=
  ⟨a + 1, IntKind.u64.wrap z, ⟨by omega, u64_bd z⟩, cur_set (y' := .int .i64 ((a : Int) + 1)) (z' := .int .u64 (IntKind.u64.wrap z)) h⟩
theorem low8 (X : Int) (h0 : 0 ≤ X) (h1 : X ≤ 18446744073709551615) : 0 ≤ wrap64 (bits BinOp.and IntKind.u64 (X / 1099511627776) 255) ∧ wrap64 (bits BinOp.and IntKind.u64 (X / 1099511627776) 255) ≤ 255 := by
  have e : X / 1099511627776 = ((X.toNat / 1099511627776 : Nat) : Int) := by omega
  have h := bits_and_u64_nat (X.toNat / 1099511627776) 255 (by omega) (by omega)
  rw [e]
  have h' : bits BinOp.and IntKind.u64 ((X.toNat / 1099511627776 : Nat) : Int) 255 = ((X.toNat / 1099511627776 &&& 255 : Nat) : Int) := h
  rw [h']
  have h2 : X.toNat / 1099511627776 &&& 255 ≤ 255 := Nat.and_le_right
  rw [IntWalk.wrap64_in _ (by omega)]
  omega
def RetNx (w : World) (g : Nat) (A : Option Addr) (n c k : Nat) (lo hi : Int) (e : Ending) (w' : World) : Prop := ∃ r : Int, (lo ≤ r ∧ r ≤ hi) ∧ e = .returned (.int .i64 r) ∧ CurW w' g A n c k ∧ w.grownBy w' (some g)
set_option maxHeartbeats 1000000 in
theorem next_any (w : World) (g : Nat) (A : Option Addr) (n c k : Nat) (l : List Int) (hC : CurW w g A n c k) (hr : RdY w A n l) (hne : 0 < n → blkOf A ≠ some g) (hn : n ≤ 9223372036854775807) (hk : k ≤ 1099511627776) :
    Calls Try.prog 49 #[.pointer (some ⟨g, 0, none⟩)] w (RetNx w g A n c (k + 1) 0 255) := by
  have hgl := hC.lt
  obtain ⟨a, s, ⟨ha, hs0, hs1⟩, hh⟩ := hC
  obtain ⟨hc0, hc1, hc2, hf1, hf2⟩ := cur_cells hh
  have HH := Lib.hid hh
  clear hh
  by_cases hlt : a < n
  · obtain ⟨b, off, v, rfl, hb, hcv, hv0, hv1⟩ := hr.open_ hlt
    have hltI : (a : Int) < n := by omega
    have hneb : ¬ b = g := fun e => hne (by omega) (by rw [e]; rfl)
    go_enter Try.func49, Try.ntmps49
    go_wp2
    go_quiet (fail)
    go_wp2
    go_quiet (fail)
    go_wp2
    go_quiet (fail)
    go_wp2
    go_ret
    exact ⟨v, ⟨hv0, hv1⟩, rfl, cur_made HH.out ha, gDrewN ((gDrewN (World.grownBy.refl w (some g)) _).trans ((cur_grown _ g 1 _).trans (cur_grown _ g 2 _))) _⟩
  · have hltI : ¬ (a : Int) < n := by omega
    have hltJ : ¬ (a : Int) + 1 ≤ n := by omega
    go_enter Try.func49, Try.ntmps49
    go_wp2
    go_quiet (fail)
    go_wp2
    go_quiet (fail)
    go_wp2
    go_ret
    exact ⟨_, low8 _ (u64_bd _).1 (u64_bd _).2, rfl, cur_made HH.out ha, gDrewN ((gDrewN (World.grownBy.refl w (some g)) _).trans ((cur_grown _ g 1 _).trans (cur_grown _ g 2 _))) _⟩
end Go.Proofs.Ytpjaiihkgeabiaa
