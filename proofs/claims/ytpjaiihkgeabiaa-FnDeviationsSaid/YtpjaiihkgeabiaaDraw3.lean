/- The reference's cursor over memory of the call's own: one bundle of what every drawing function needs; a drawn series. Conditions: fewer than 2^39 choices, inputs below 2^40 bytes. -/
import Derived.Test.YtpjaiihkgeabiaaDraw2
set_option linter.unusedVariables false
set_option linter.unusedSimpArgs false
set_option maxRecDepth 100000
namespace Go.Proofs.Ytpjaiihkgeabiaa
open Go.RowKit
structure Cx (R w : World) (g : Nat) (A : Option Addr) (n c k : Nat) (l : List Int) : Prop where
  cur : CurW w g A n c k
  rd : RdY R A n l
  bel : Below R.heap.size R w
  le : R.heap.size ≤ g
  nb : n ≤ 9223372036854775807
theorem Cx.ne {R w : World} {g n c k : Nat} {A : Option Addr} {l : List Int} (h : Cx R w g A n c k l) (hn : 0 < n) : blkOf A ≠ some g := by
  obtain ⟨b, off, rfl, hlt, _⟩ := h.rd.1.2 hn
  intro e
  have e : b = g := by simpa [blkOf] using e
  have := h.le
  omega
theorem Cx.grow {R w w' : World} {g n c k k' : Nat} {A : Option Addr} {l : List Int} (h : Cx R w g A n c k l) (hC : CurW w' g A n c k') (hg : w.grownBy w' (some g)) : Cx R w' g A n c k' l :=
  ⟨hC, h.rd, below_grown h.bel hg (fun k hk => by injection hk with hk; have := h.le; omega), h.le, h.nb⟩
theorem Cx.below {R w w' : World} {g n c k : Nat} {A : Option Addr} {l : List Int} (h : Cx R w g A n c k l) (hb : Below w.heap.size w w') : Cx R w' g A n c k l :=
  ⟨h.cur.below hb, h.rd, h.bel.trans (hb.mono h.bel.size), h.le, h.nb⟩
theorem Cx.row {R w w' : World} {g n c k : Nat} {A : Option Addr} {l : List Int} {row : Option Nat} (h : Cx R w g A n c k l) (hg : w.grownBy w' row) (hne : row ≠ some g) (hr : ∀ b, row = some b → R.heap.size ≤ b) : Cx R w' g A n c k l :=
  ⟨h.cur.kept hg (fun e => hne e.symm), h.rd, below_grown h.bel hg hr, h.le, h.nb⟩
theorem Cx.mono {R w : World} {g n c k k' : Nat} {A : Option Addr} {l : List Int} (h : Cx R w g A n c k l) (hk : k ≤ k') : Cx R w g A n c k' l := ⟨h.cur.mono hk, h.rd, h.bel, h.le, h.nb⟩
theorem pick_cx {R w : World} {g n c k : Nat} {A : Option Addr} {l : List Int} (h : Cx R w g A n c k l) (q : Int) (hk : k ≤ 1099511627000) (hq1 : 1 ≤ q) (hq2 : q ≤ 1099511627776) :
    Calls Try.prog 25 #[.pointer (some ⟨g, 0, none⟩), .int .i64 q] w (RetNx w g A n c (k + 2) 0 (q - 1)) := pick_any w g A n c k l q h.cur (h.rd.below h.bel) h.ne h.nb hk hq1 hq2
theorem one_cx {R w : World} {g n c k : Nat} {A : Option Addr} {l : List Int} (h : Cx R w g A n c k l) (q : Int) (hk : k ≤ 1099511627000) (hq1 : 1 ≤ q) (hq2 : q ≤ 1099511627776) :
    Calls Try.prog 48 #[.pointer (some ⟨g, 0, none⟩), .int .i64 q] w (RetOn w g A n c (k + 2)) := one_any w g A n c k l q h.cur (h.rd.below h.bel) h.ne h.nb hk hq1 hq2
theorem among_cx {R w : World} {g n c k : Nat} {A : Option Addr} {l : List Int} (h : Cx R w g A n c k l) {b : Nat} (m d : Nat) (L : List Int) (hk : k ≤ 1099511627000) (hb : RdI w (some ⟨b, 0, none⟩) m L) (hneb : g < b) (hm1 : 1 ≤ m) (hm2 : m ≤ 1099511627776) :
    Calls Try.prog 41 #[.pointer (some ⟨g, 0, none⟩), .slice (some ⟨b, 0, none⟩) m d] w (RetAm w g A n c (k + 2) L) := among_any w g A n c k l _ m d L h.cur (h.rd.below h.bel) h.ne h.nb hk hb (by simp [blkOf]; omega) hm1 hm2
end Go.Proofs.Ytpjaiihkgeabiaa
