/- The reference's cursor: what next, pick, one, among do. Conditions: fewer than 2^40 choices, inputs below 2^40 bytes. -/
import Derived.Test.YtpjaiihkgeabiaaDoorLawKit
import Derived.Test.YtpjaiihkgeabiaaDoorInts
import Derived.Laws.Bits64b
import Derived.Laws.Rows
import Derived.Test.YtpjaiihkgeabiaaDoorSlots
import Derived.Deep.DeepCutAuto
import Derived.Deep.CutBlock
import Derived.Test.YtpjaiihkgeabiaaDoorTimes
import Derived.Deep.RegionHeld3
set_option linter.unusedVariables false
set_option linter.unusedSimpArgs false
set_option maxRecDepth 100000
namespace Go.Proofs.YtpjaiihkgeabiaaDoor
open Go.RowKit
/-- Block g is a cursor over (A, n, c) that has made at most k choices. -/
def CurW (w : World) (g : Nat) (A : Option Addr) (n c k : Nat) : Prop := ∃ (a : Nat) (s : Int), (a ≤ k ∧ 0 ≤ s ∧ s ≤ 18446744073709551615) ∧ w.heap[g]? = some (.cells #[.slice A n c, .int .i64 a, .int .u64 s] 76 (0, 0))
/-- A slice of bytes reads as the list. -/
def RdY (w : World) (A : Option Addr) (n : Nat) (l : List Int) : Prop := Rd 1 w A n (l.map (Value.int .u8)) ∧ ∀ x ∈ l, 0 ≤ x ∧ x ≤ 255
theorem RdY.below {w w' : World} {A : Option Addr} {n : Nat} {l : List Int} (h : RdY w A n l) (hb : Below w.heap.size w w') : RdY w' A n l := ⟨Rd.below h.1 hb, h.2⟩
theorem RdY.open_ {w : World} {A : Option Addr} {n : Nat} {l : List Int} (h : RdY w A n l) {k : Nat} (hk : k < n) : ∃ b off v, A = some ⟨b, off, none⟩ ∧ b < w.heap.size ∧ w.cell? ⟨b, off + k, none⟩ = some (.int .u8 v) ∧ 0 ≤ v ∧ v ≤ 255 := by
  have hl : l.length = n := by have := h.1.1; simpa using this
  obtain ⟨b, off, e, hlt, hc⟩ := h.1.2 (by omega)
  refine ⟨b, off, l[k]?.getD 0, e, hlt, hc k _ ?_, h.2 _ (getD_mem 0 l k (by omega))⟩
  simp [show k < l.length by omega]
theorem CurW.lt {w : World} {g : Nat} {A : Option Addr} {n c k : Nat} (h : CurW w g A n c k) : g < w.heap.size := by
  obtain ⟨a, s, _, h⟩ := h
  rcases Nat.lt_or_ge g w.heap.size with h' | h'
  · exact h'
  · simp [Array.getElem?_eq_none h'] at h
theorem CurW.mono {w : World} {g : Nat} {A : Option Addr} {n c k k' : Nat} (h : CurW w g A n c k) (hk : k ≤ k') : CurW w g A n c k' := by
  obtain ⟨a, s, ⟨h1, h2⟩, h3⟩ := h; exact ⟨a, s, ⟨by omega, h2⟩, h3⟩
theorem CurW.kept {w w' : World} {g : Nat} {A : Option Addr} {n c k : Nat} {row : Option Nat} (h : CurW w g A n c k) (hg : w.grownBy w' row) (hne : some g ≠ row) : CurW w' g A n c k := by
  have hlt := h.lt
  obtain ⟨a, s, h1, h3⟩ := h
  exact ⟨a, s, h1, (hg.block g hlt hne).trans h3⟩
theorem CurW.below {w w' : World} {g : Nat} {A : Option Addr} {n c k : Nat} (h : CurW w g A n c k) (hb : Below w.heap.size w w') : CurW w' g A n c k := h.kept (grownBy_of_below (row := none) hb) (by simp)
theorem cur_cells {w : World} {g : Nat} {x y z : Value} (h : w.heap[g]? = some (.cells #[x, y, z] 76 (0, 0))) : w.cell? ⟨g, 0, none⟩ = some x ∧ w.cell? ⟨g, 1, none⟩ = some y ∧ w.cell? ⟨g, 2, none⟩ = some z ∧ w.frozen? ⟨g, 1, none⟩ = false ∧ w.frozen? ⟨g, 2, none⟩ = false := by
  refine ⟨?_, ?_, ?_, ?_, ?_⟩ <;> simp [World.cell?, World.frozen?, h]
theorem cur_set {w : World} {g : Nat} {x y z y' z' : Value} (h : w.heap[g]? = some (.cells #[x, y, z] 76 (0, 0))) : ((w.setCell ⟨g, 1, none⟩ y').setCell ⟨g, 2, none⟩ z').heap[g]? = some (.cells #[x, y', z'] 76 (0, 0)) := by
  have h1 := heap_setCell_same w g 1 _ _ y' h
  exact heap_setCell_same _ g 2 _ _ z' h1
theorem cur_grown (w : World) (g i : Nat) (v : Value) : w.grownBy (w.setCell ⟨g, i, none⟩ v) (some g) :=
  ⟨rfl, rfl, rfl, by simp, fun k _ hk => Below.heap_setCell w _ v k (fun e => hk (by rw [e]))⟩
theorem u64_bd (x : Int) : 0 ≤ IntKind.u64.wrap x ∧ IntKind.u64.wrap x ≤ 18446744073709551615 := by rw [IntKind.wrap_u64]; omega
theorem cur_made {w : World} {g m q a k n c : Nat} {A : Option Addr} {s z : Int} (h : w.heap[g]? = some (.cells #[.slice A n c, .int .i64 a, .int .u64 s] 76 (0, 0))) (ha : a ≤ k) :
    CurW ((((w.drewN m).setCell ⟨g, 1, none⟩ (.int .i64 ((a : Int) + 1))).setCell ⟨g, 2, none⟩ (.int .u64 (IntKind.u64.wrap z))).drewN q) g A n c (k + 1) :=
  ⟨a + 1, IntKind.u64.wrap z, ⟨by omega, u64_bd z⟩, cur_set (y' := .int .i64 ((a : Int) + 1)) (z' := .int .u64 (IntKind.u64.wrap z)) h⟩
theorem low8 (X : Int) (h0 : 0 ≤ X) (h1 : X ≤ 18446744073709551615) : 0 ≤ wrap64 (bits BinOp.and IntKind.u64 (X / 1099511627776) 255) ∧ wrap64 (bits BinOp.and IntKind.u64 (X / 1099511627776) 255) ≤ 255 := by
  have e : X / 1099511627776 = ((X.toNat / 1099511627776 : Nat) : Int) := by omega
  have h := bits_and_u64_nat (X.toNat / 1099511627776) 255 (by omega) (by omega)
  rw [e]
  have h' : bits BinOp.and IntKind.u64 ((X.toNat / 1099511627776 : Nat) : Int) 255 = ((X.toNat / 1099511627776 &&& 255 : Nat) : Int) := h
  rw [h']
  have h2 : X.toNat / 1099511627776 &&& 255 ≤ 255 := Nat.and_le_right
  rw [IntWalk.wrap64_in _ (by omega)]
  omega
def RetNx (w : World) (g : Nat) (A : Option Addr) (n c k : Nat) (lo hi : Int) (e : Ending) (w' : World) : Prop := ∃ r : Int, (lo ≤ r ∧ r ≤ hi) ∧ e = .returned (.int .i64 r) ∧ CurW w' g A n c k ∧ w.grownBy w' (some g)
set_option maxHeartbeats 1000000 in
theorem next_any (w : World) (g : Nat) (A : Option Addr) (n c k : Nat) (l : List Int) (hC : CurW w g A n c k) (hr : RdY w A n l) (hne : 0 < n → blkOf A ≠ some g) (hn : n ≤ 9223372036854775807) (hk : k ≤ 1099511627776) :
    Calls Tryd.prog 95 #[.pointer (some ⟨g, 0, none⟩)] w (RetNx w g A n c (k + 1) 0 255) := by
  have hgl := hC.lt
  obtain ⟨a, s, ⟨ha, hs0, hs1⟩, hh⟩ := hC
  obtain ⟨hc0, hc1, hc2, hf1, hf2⟩ := cur_cells hh
  have HH := Lib.hid hh
  clear hh
  by_cases hlt : a < n
  · obtain ⟨b, off, v, rfl, hb, hcv, hv0, hv1⟩ := hr.open_ hlt
    have hltI : (a : Int) < n := by omega
    have hneb : ¬ b = g := fun e => hne (by omega) (by rw [e]; rfl)
    go_enter Tryd.func95, Tryd.ntmps95
    go_wp2
    go_quiet (fail)
    go_wp2
    go_quiet (fail)
    go_wp2
    go_quiet (fail)
    go_wp2
    go_ret
    exact ⟨v, ⟨hv0, hv1⟩, rfl, cur_made HH.out ha, gDrewN ((gDrewN (World.grownBy.refl w (some g)) _).trans ((cur_grown _ g 1 _).trans (cur_grown _ g 2 _))) _⟩
  · have hltI : ¬ (a : Int) < n := by omega
    have hltJ : ¬ (a : Int) + 1 ≤ n := by omega
    go_enter Tryd.func95, Tryd.ntmps95
    go_wp2
    go_quiet (fail)
    go_wp2
    go_quiet (fail)
    go_wp2
    go_ret
    exact ⟨_, low8 _ (u64_bd _).1 (u64_bd _).2, rfl, cur_made HH.out ha, gDrewN ((gDrewN (World.grownBy.refl w (some g)) _).trans ((cur_grown _ g 1 _).trans (cur_grown _ g 2 _))) _⟩
end Go.Proofs.YtpjaiihkgeabiaaDoor
namespace Go.Proofs.YtpjaiihkgeabiaaDoor
open Go.RowKit
theorem RetNx.weak {w : World} {g : Nat} {A : Option Addr} {n c k k' : Nat} {lo hi : Int} {e : Ending} {w' : World} (h : RetNx w g A n c k lo hi e w') (hk : k ≤ k') : RetNx w g A n c k' lo hi e w' := by
  obtain ⟨r, h1, h2, h3, h4⟩ := h; exact ⟨r, h1, h2, h3.mono hk, h4⟩
theorem RdY.kept {w w' : World} {A : Option Addr} {n g : Nat} {l : List Int} (h : RdY w A n l) (hg : w.grownBy w' (some g)) (hne : 0 < n → blkOf A ≠ some g) : RdY w' A n l := by
  refine ⟨⟨h.1.1, fun hn => ?_⟩, h.2⟩
  obtain ⟨b, off, rfl, hlt, hc⟩ := h.1.2 hn
  refine ⟨b, off, rfl, Nat.lt_of_lt_of_le hlt hg.size, fun j u hu => ?_⟩
  exact hg.cell (a := ⟨b, off + j, none⟩) (hc j u hu) (fun e => hne (by omega) e)
theorem RdI.kept {w w' : World} {A : Option Addr} {n g : Nat} {l : List Int} (h : RdI w A n l) (hg : w.grownBy w' (some g)) (hne : blkOf A ≠ some g) : RdI w' A n l := by
  refine ⟨h.1, fun hn => ?_⟩
  obtain ⟨b, off, rfl, hlt, hc⟩ := h.2 hn
  refine ⟨b, off, rfl, Nat.lt_of_lt_of_le hlt hg.size, fun j u hu => ?_⟩
  exact hg.cell (a := ⟨b, off + j, none⟩) (hc j u hu) (fun e => hne e)
set_option maxHeartbeats 1000000 in
theorem pick_any (w : World) (g : Nat) (A : Option Addr) (n c k : Nat) (l : List Int) (q : Int) (hC : CurW w g A n c k) (hr : RdY w A n l) (hne : 0 < n → blkOf A ≠ some g) (hn : n ≤ 9223372036854775807) (hk : k ≤ 1099511627000) (hq1 : 1 ≤ q) (hq2 : q ≤ 1099511627776) :
    Calls Tryd.prog 55 #[.pointer (some ⟨g, 0, none⟩), .int .i64 q] w (RetNx w g A n c (k + 2) 0 (q - 1)) := by
  by_cases h1 : q ≤ 1
  · obtain rfl : q = 1 := by omega
    go_enter Tryd.func55, Tryd.ntmps55
    go_wp2
    go_ret
    exact ⟨0, by omega, rfl, hC.mono (by omega), World.grownBy.refl _ _⟩
  · by_cases h2 : 200 < q
    · go_enter Tryd.func55, Tryd.ntmps55
      go_wp2_with fail
      refine (next_any _ g A n c k l hC hr hne hn (by omega)).mono ?_
      rintro e w1 ⟨r1, ⟨ha0, ha1⟩, rfl, hC1, hg1⟩
      go_wp2_with fail
      refine (next_any _ g A n c (k + 1) l hC1 (hr.kept hg1 hne) hne hn (by omega)).mono ?_
      rintro e w2 ⟨r2, ⟨hb0, hb1⟩, rfl, hC2, hg2⟩
      go_wp2
      go_ret
      have h3 := Int.emod_nonneg (r1 * 256 + r2) (show q ≠ 0 by omega)
      have h4 := Int.emod_lt_of_pos (r1 * 256 + r2) (show 0 < q by omega)
      exact ⟨_, ⟨h3, by omega⟩, rfl, hC2, hg1.trans hg2⟩
    · go_enter Tryd.func55, Tryd.ntmps55
      go_wp2_with fail
      refine (next_any _ g A n c k l hC hr hne hn (by omega)).mono ?_
      rintro e w1 ⟨r1, ⟨ha0, ha1⟩, rfl, hC1, hg1⟩
      go_wp2
      go_ret
      have h3 := Int.emod_nonneg r1 (show q ≠ 0 by omega)
      have h4 := Int.emod_lt_of_pos r1 (show 0 < q by omega)
      exact ⟨_, ⟨h3, by omega⟩, rfl, hC1.mono (by omega), hg1⟩
def RetOn (w : World) (g : Nat) (A : Option Addr) (n c k : Nat) (e : Ending) (w' : World) : Prop := ∃ b : Bool, e = .returned (.bool b) ∧ CurW w' g A n c k ∧ w.grownBy w' (some g)
theorem one_any (w : World) (g : Nat) (A : Option Addr) (n c k : Nat) (l : List Int) (q : Int) (hC : CurW w g A n c k) (hr : RdY w A n l) (hne : 0 < n → blkOf A ≠ some g) (hn : n ≤ 9223372036854775807) (hk : k ≤ 1099511627000) (hq1 : 1 ≤ q) (hq2 : q ≤ 1099511627776) :
    Calls Tryd.prog 52 #[.pointer (some ⟨g, 0, none⟩), .int .i64 q] w (RetOn w g A n c (k + 2)) := by
  go_enter Tryd.func52, Tryd.ntmps52
  go_wp2_with fail
  refine (pick_any _ g A n c k l q hC hr hne hn hk hq1 hq2).mono ?_
  rintro e w1 ⟨r1, ⟨ha0, ha1⟩, rfl, hC1, hg1⟩
  go_wp2
  go_ret
  exact ⟨_, rfl, hC1, hg1⟩
def RetAm (w : World) (g : Nat) (A : Option Addr) (n c k : Nat) (L : List Int) (e : Ending) (w' : World) : Prop := ∃ r : Int, r ∈ L ∧ e = .returned (.int .i64 r) ∧ CurW w' g A n c k ∧ w.grownBy w' (some g)
theorem among_any (w : World) (g : Nat) (A : Option Addr) (n c k : Nat) (l : List Int) (B : Option Addr) (m d : Nat) (L : List Int) (hC : CurW w g A n c k) (hr : RdY w A n l) (hne : 0 < n → blkOf A ≠ some g) (hn : n ≤ 9223372036854775807) (hk : k ≤ 1099511627000) (hb : RdI w B m L) (hneb : blkOf B ≠ some g) (hm1 : 1 ≤ m) (hm2 : m ≤ 1099511627776) :
    Calls Tryd.prog 51 #[.pointer (some ⟨g, 0, none⟩), .slice B m d] w (RetAm w g A n c (k + 2) L) := by
  have hl := hb.len
  go_enter Tryd.func51, Tryd.ntmps51
  go_wp2_with fail
  refine (pick_any _ g A n c k l m hC hr hne hn hk (by omega) (by omega)).mono ?_
  rintro e w1 ⟨r1, ⟨ha0, ha1⟩, rfl, hC1, hg1⟩
  obtain ⟨b, off, rfl, hlt, hc⟩ := (hb.kept hg1 hneb).open_ (by omega)
  obtain ⟨i, rfl⟩ : ∃ i : Nat, r1 = i := ⟨r1.toNat, by omega⟩
  have hi := hc i (by omega)
  rw [List.getD_eq_getElem?_getD] at hi
  have hm := getD_mem 0 L i (by omega)
  clear hc
  have hiI : (i : Int) < m := by omega
  go_wp2
  go_ret
  exact ⟨_, hm, rfl, hC1, hg1⟩
end Go.Proofs.YtpjaiihkgeabiaaDoor
namespace Go.Proofs.YtpjaiihkgeabiaaDoor
open Go.RowKit
structure Cx (R w : World) (g : Nat) (A : Option Addr) (n c k : Nat) (l : List Int) : Prop where
  cur : CurW w g A n c k
  rd : RdY R A n l
  bel : Below R.heap.size R w
  le : R.heap.size ≤ g
  nb : n ≤ 9223372036854775807
theorem Cx.ne {R w : World} {g n c k : Nat} {A : Option Addr} {l : List Int} (h : Cx R w g A n c k l) (hn : 0 < n) : blkOf A ≠ some g := by
  obtain ⟨b, off, rfl, hlt, _⟩ := h.rd.1.2 hn
  intro e
  have e : b = g := by simpa [blkOf] using e
  have := h.le
  omega
theorem Cx.grow {R w w' : World} {g n c k k' : Nat} {A : Option Addr} {l : List Int} (h : Cx R w g A n c k l) (hC : CurW w' g A n c k') (hg : w.grownBy w' (some g)) : Cx R w' g A n c k' l :=
  ⟨hC, h.rd, below_grown h.bel hg (fun k hk => by injection hk with hk; have := h.le; omega), h.le, h.nb⟩
theorem Cx.below {R w w' : World} {g n c k : Nat} {A : Option Addr} {l : List Int} (h : Cx R w g A n c k l) (hb : Below w.heap.size w w') : Cx R w' g A n c k l :=
  ⟨h.cur.below hb, h.rd, h.bel.trans (hb.mono h.bel.size), h.le, h.nb⟩
theorem Cx.row {R w w' : World} {g n c k : Nat} {A : Option Addr} {l : List Int} {row : Option Nat} (h : Cx R w g A n c k l) (hg : w.grownBy w' row) (hne : row ≠ some g) (hr : ∀ b, row = some b → R.heap.size ≤ b) : Cx R w' g A n c k l :=
  ⟨h.cur.kept hg (fun e => hne e.symm), h.rd, below_grown h.bel hg hr, h.le, h.nb⟩
theorem Cx.mono {R w : World} {g n c k k' : Nat} {A : Option Addr} {l : List Int} (h : Cx R w g A n c k l) (hk : k ≤ k') : Cx R w g A n c k' l := ⟨h.cur.mono hk, h.rd, h.bel, h.le, h.nb⟩
theorem pick_cx {R w : World} {g n c k : Nat} {A : Option Addr} {l : List Int} (h : Cx R w g A n c k l) (q : Int) (hk : k ≤ 1099511627000) (hq1 : 1 ≤ q) (hq2 : q ≤ 1099511627776) :
    Calls Tryd.prog 55 #[.pointer (some ⟨g, 0, none⟩), .int .i64 q] w (RetNx w g A n c (k + 2) 0 (q - 1)) := pick_any w g A n c k l q h.cur (h.rd.below h.bel) h.ne h.nb hk hq1 hq2
theorem one_cx {R w : World} {g n c k : Nat} {A : Option Addr} {l : List Int} (h : Cx R w g A n c k l) (q : Int) (hk : k ≤ 1099511627000) (hq1 : 1 ≤ q) (hq2 : q ≤ 1099511627776) :
    Calls Tryd.prog 52 #[.pointer (some ⟨g, 0, none⟩), .int .i64 q] w (RetOn w g A n c (k + 2)) := one_any w g A n c k l q h.cur (h.rd.below h.bel) h.ne h.nb hk hq1 hq2
theorem among_cx {R w : World} {g n c k : Nat} {A : Option Addr} {l : List Int} (h : Cx R w g A n c k l) {b : Nat} (m d : Nat) (L : List Int) (hk : k ≤ 1099511627000) (hb : RdI w (some ⟨b, 0, none⟩) m L) (hneb : g < b) (hm1 : 1 ≤ m) (hm2 : m ≤ 1099511627776) :
    Calls Tryd.prog 51 #[.pointer (some ⟨g, 0, none⟩), .slice (some ⟨b, 0, none⟩) m d] w (RetAm w g A n c (k + 2) L) := among_any w g A n c k l _ m d L h.cur (h.rd.below h.bel) h.ne h.nb hk hb (by simp [blkOf]; omega) hm1 hm2
end Go.Proofs.YtpjaiihkgeabiaaDoor
namespace Go.Proofs.YtpjaiihkgeabiaaDoor
open Go.RowKit
/-- The row is nil, or its block is not below w. -/
def Nw (w : World) (D : Option Addr) : Prop := ∀ b, blkOf D = some b → w.heap.size ≤ b
theorem Nw.nil_ {w : World} : Nw w none := fun b h => by cases h
theorem Nw.push {w W : World} {D D' : Option Addr} (h : Nw w D) (hW : w.heap.size ≤ W.heap.size) (hd : blkOf D' = blkOf D ∨ ∃ g, blkOf D' = some g ∧ W.heap.size < g) : Nw w D' := fun b hb => by
  rcases hd with hd | ⟨g, hd, hlt⟩
  · exact h b (by rw [← hd]; exact hb)
  · rw [hd] at hb; injection hb with hb; omega
theorem Nw.ne {w : World} {D : Option Addr} {g : Nat} (h : Nw w D) (hg : g < w.heap.size) : blkOf D = none ∨ blkOf D ≠ some g := by
  cases hD : blkOf D with
  | none => exact .inl rfl
  | some b => exact .inr (fun e => by injection e with e; have := h b hD; omega)
theorem Nw.ne' {w : World} {D : Option Addr} {g : Nat} (h : Nw w D) (hg : g < w.heap.size) : blkOf D ≠ some g := fun e => by have := h g e; omega
/-- Writes to a row that is new since w are no writes to w. -/
theorem grown_new {w W W' : World} {row : Option Nat} {D : Option Addr} (h : w.grownBy W row) (hg : W.grownBy W' (blkOf D)) (hD : Nw w D) : w.grownBy W' row := by
  refine ⟨hg.os.trans h.os, hg.tape.trans h.tape, hg.output.trans h.output, Nat.le_trans h.size hg.size, fun k hk hne => ?_⟩
  rw [hg.block k (Nat.lt_of_lt_of_le hk h.size) (fun e => by have := hD k e.symm; omega)]
  exact h.block k hk hne
theorem int_lit {w : World} (l : List Int) (hl : l.length ≤ maxLen) (cs : Array Value) (hcs : cs.toList = l.map (Value.int .i64)) : RdI (w.alloc (.cells cs 3)) (some ⟨w.heap.size, 0, none⟩) l.length l := (OwI.lit_ (Below.refl _ w) l hl cs hcs).rd
end Go.Proofs.YtpjaiihkgeabiaaDoor
namespace Go.Proofs.YtpjaiihkgeabiaaDoor
open Go.RowKit
theorem cx_new {w : World} {A : Option Addr} {n c : Nat} {l : List Int} (hr : RdY w A n l) (hn : n ≤ 9223372036854775807) : Cx w (w.alloc (.cells #[.slice A n c, .int .i64 0, .int .u64 0] 76)) w.heap.size A n c 0 l := by
  refine ⟨⟨0, 0, by omega, ?_⟩, hr, bAlloc (Below.refl _ _) _, Nat.le_refl _, hn⟩
  exact heap_alloc_new w _
def RetD1 (w : World) (e : Ending) (w' : World) : Prop := ∃ (A : Option Addr) (n c : Nat) (L : List Int) (x : World), e = .returned (.slice A n c) ∧ n ≤ 1000 ∧ w' = ext w x ∧ OwI w.heap.size (ext w x) A n c L
def RetD2 (w : World) (e : Ending) (w' : World) : Prop := ∃ (A : Option Addr) (n c : Nat) (L : List Int) (B : Option Addr) (m d : Nat) (M : List Int) (x : World), e = .returned (.tuple #[.slice A n c, .slice B m d]) ∧ (n ≤ 1000 ∧ m ≤ 1000) ∧ w' = ext w x ∧ OwI w.heap.size (ext w x) A n c L ∧ OwI w.heap.size (ext w x) B m d M
def RetD1I (w : World) (e : Ending) (w' : World) : Prop := ∃ (A : Option Addr) (n c : Nat) (L : List Int) (i : Int) (x : World), e = .returned (.tuple #[.slice A n c, .int .i64 i]) ∧ n ≤ 1000 ∧ w' = ext w x ∧ OwI w.heap.size (ext w x) A n c L
end Go.Proofs.YtpjaiihkgeabiaaDoor
namespace Go.Proofs.YtpjaiihkgeabiaaDoor
open Go.RowKit
def RetII (w : World) (e : Ending) (w' : World) : Prop := ∃ (i j : Int) (x : World), e = .returned (.tuple #[.int .i64 i, .int .i64 j]) ∧ w' = ext w x
end Go.Proofs.YtpjaiihkgeabiaaDoor
namespace Go.Proofs.YtpjaiihkgeabiaaDoor
open Go.RowKit
section
variable {ops : Array Oper} {rest : List Oper} {o : Oper} {a : Act} {Q : Exit → Act → World → Prop}
/-- append(s, v): one slot onto a row of the call's own. R: the world of reference, W: the world before the block of v was made. -/
theorem wpl_push_slot (R W : World) (u v : Int) (gx : Nat) (hgx : gx = W.heap.size) (hgd : o.guard = none) (s x : Operand) (ho : o.op = .call { callee := .builtin .append, args := #[s, x], argTypes := #[51, 51] })
    (A : Option Addr) (n c : Nat) (l : List (Int × Int)) (hs : a.eval s = .slice A n c) {W₀ : World} (hown₀ : OwS R.heap.size W₀ A n c l) (hW₀ : Below W₀.heap.size W₀ W) (hR : Below R.heap.size R W)
    (hx : a.eval x = .slice (some ⟨gx, 0, none⟩) 1 1) (hn : n ≤ 1099511627776)
    (h : ∀ A' c' y, OwS R.heap.size (ext R y) A' (n + 1) c' (l ++ [(u, v)]) → W.grownBy (ext R y) (blkOf A) → (blkOf A' = blkOf A ∨ ∃ g, blkOf A' = some g ∧ W.heap.size < g) → wpList Tryd.prog ops Q rest (a.put o.dst (.slice A' (n + 1) c')) (ext R y)) :
    wpList Tryd.prog ops Q (o :: rest) a (W.alloc (.cells #[.int .i64 u, .int .i64 v] 110)) := by
  subst hgx
  have hown := hown₀.below hW₀
  obtain ⟨i0, hi0, hz0, hz1, hz2⟩ := info_parts slot_info
  have hRw : Below R.heap.size R (W.alloc (.cells #[.int .i64 u, .int .i64 v] 110)) := bAlloc hR _
  have hown1 := hown.below (bAlloc (Below.refl W.heap.size W) (.cells #[.int .i64 u, .int .i64 v] 110))
  refine wpList_append_own_at _ hgd s x _ ho R.heap.size 110 i0 (.agg #[.int .i64 0, .int .i64 0]) 2 16 Tryd.underlying51 hi0 hz0 hz1 hz2 rfl (by omega) (.slice A n c) n (slotCells l) hs hown1
    ⟨W.heap.size, 0, none⟩ 1 1 [.int .i64 u, .int .i64 v] hx rfl ?_ (by simp [Value.oneCell']) (by simp only [maxLen]; omega) (by omega) hRw.size ?_
  · intro j z hz
    match j with
    | 0 => simp at hz; subst hz; simp [Addr.add, go_sem]
    | 1 => simp at hz; subst hz; simp [Addr.add, go_sem]
    | j + 2 => simp at hz
  · intro v' w' hown' hg _ hd
    rw [ownBlock_slice] at hg hd
    have hBw : Below R.heap.size R w' := below_grown hRw hg (fun k hk => (hown1.blk hk).1)
    obtain ⟨y, rfl⟩ := ext_ex hBw
    rcases hown'.2 with ⟨_, h0⟩ | ⟨g', cap, cur, rfl, hrest⟩
    · omega
    · rw [ownBlock_slice] at hd
      refine h _ _ y ?_ ((World.grownBy_alloc W _ _).trans hg) ?_
      · have : slotCells (l ++ [(u, v)]) = slotCells l ++ [.int .i64 u, .int .i64 v] := by simp [slotCells]
        unfold OwS Ow
        rw [this]
        exact hown'
      · rcases hd with hd | hd
        · exact .inl hd
        · exact .inr ⟨_, hd, by simp⟩
end
theorem OwS.set0_ {base n c g : Nat} {w : World} {l : List (Int × Int)} (h : OwS base w (some ⟨g, 0, none⟩) n c l) (k : Nat) (hk : k < n) (a : Int) :
    OwS base (w.setCell ⟨g, k * 2, none⟩ (.int .i64 a)) (some ⟨g, 0, none⟩) n c (l.set k (a, (l[k]?.getD (0, 0)).2)) ∧ w.grownBy (w.setCell ⟨g, k * 2, none⟩ (.int .i64 a)) (some g) := by
  have h1 := Ow.stored_ h (k * 2) (.int .i64 a)
  refine ⟨?_, h1.2⟩
  have hl := h.len
  have h2 := slotCells_get1 l k (by omega)
  have e : (slotCells l).set (k * 2) (.int .i64 a) = slotCells (l.set k (a, (l[k]?.getD (0, 0)).2)) := by
    rw [← slotCells_set l k a _ (by omega)]
    refine List.ext_getElem? fun i => ?_
    by_cases hi : i = k * 2 + 1
    · subst hi
      rw [List.getElem?_set_ne (by omega), h2, List.getElem?_set_self (by simp [slotCells_len]; omega)]
    · rw [List.getElem?_set_ne (show k * 2 + 1 ≠ i by omega)]
  unfold OwS
  rw [← e]
  exact h1.1
theorem OwS.set1_ {base n c g : Nat} {w : World} {l : List (Int × Int)} (h : OwS base w (some ⟨g, 0, none⟩) n c l) (k : Nat) (hk : k < n) (b : Int) :
    OwS base (w.setCell ⟨g, k * 2 + 1, none⟩ (.int .i64 b)) (some ⟨g, 0, none⟩) n c (l.set k ((l[k]?.getD (0, 0)).1, b)) ∧ w.grownBy (w.setCell ⟨g, k * 2 + 1, none⟩ (.int .i64 b)) (some g) := by
  have h1 := Ow.stored_ h (k * 2 + 1) (.int .i64 b)
  refine ⟨?_, h1.2⟩
  have hl := h.len
  have h2 := slotCells_get0 l k (by omega)
  have e : (slotCells l).set (k * 2 + 1) (.int .i64 b) = slotCells (l.set k ((l[k]?.getD (0, 0)).1, b)) := by
    rw [← slotCells_set l k _ b (by omega)]
    refine List.ext_getElem? fun i => ?_
    by_cases hi : i = k * 2
    · subst hi
      rw [List.getElem?_set_ne (by omega), h2, List.getElem?_set_ne (by omega), List.getElem?_set_self (by simp [slotCells_len]; omega)]
    · by_cases hi1 : i = k * 2 + 1
      · subst hi1
        rw [List.getElem?_set_self (by rw [slotCells_len]; omega), List.getElem?_set_self (by rw [List.length_set, slotCells_len]; omega)]
      · rw [List.getElem?_set_ne (show k * 2 + 1 ≠ i by omega), List.getElem?_set_ne (show k * 2 + 1 ≠ i by omega), List.getElem?_set_ne (show k * 2 ≠ i by omega)]
  unfold OwS
  rw [← e]
  exact h1.1
/-- What a function that draws slots from the cursor ends with. -/
def RetDS (R w : World) (g : Nat) (A : Option Addr) (n c k : Nat) (l : List Int) (e : Ending) (w' : World) : Prop := ∃ (D : Option Addr) (q z : Nat) (L : List (Int × Int)), e = .returned (.slice D q z) ∧ q ≤ 41 ∧ Cx R w' g A n c k l ∧ OwS R.heap.size w' D q z L ∧ Nw w D ∧ w.grownBy w' (some g)
set_option maxHeartbeats 4000000 in
theorem slots_any {R w : World} {g n c k : Nat} {A : Option Addr} {l : List Int} (h : Cx R w g A n c k l) (hk : k ≤ 1000000) :
    Calls Tryd.prog 71 #[.pointer (some ⟨g, 0, none⟩)] w (RetDS R w g A n c (k + 1000) l) := by
  have hgw := h.cur.lt
  go_enter Tryd.func71, Tryd.ntmps71
  go_wp2_with fail
  refine (pick_cx h 9 (by omega) (by omega) (by omega)).mono ?_
  rintro e w1 ⟨r1, ⟨hr0, hr1⟩, rfl, hC1, hg1⟩
  have h1 := h.grow hC1 hg1
  go_wp2_with fail
  refine (one_cx h1 20 (by omega) (by omega) (by omega)).mono ?_
  rintro e w2 ⟨b, rfl, hC2, hg2⟩
  have h2 := h1.grow hC2 hg2
  have g2 := hg1.trans hg2
  clear h1 hC1 hC2 hg1 hg2
  go_upto_if 10 with fail
  go_cut [4] (fun v wx => ∃ N : Nat, N ≤ 41 ∧ v = .int .i64 N ∧ Cx R wx g A n c (k + 6) l ∧ w.grownBy wx (some g))
  case first =>
    cases b
    · go_wp2
      go_meet
      exact ⟨(1 + r1).toNat, by omega, congrArg (Value.int .i64) (by omega), h2.mono (by omega), g2⟩
    · go_wp2_with fail
      refine (among_cx (h2.below (bAlloc (Below.refl _ w2) _)) 3 3 [0, 40, 41] (by omega) (int_lit [0, 40, 41] (by simp [maxLen]) _ rfl) h2.cur.lt (by omega) (by omega)).mono ?_
      rintro e w3 ⟨v3, hv3, rfl, hC3, hg3⟩
      have h3 := (h2.below (bAlloc (Below.refl _ w2) _)).grow hC3 hg3
      have g3 := g2.trans ((World.grownBy_alloc w2 _ _).trans hg3)
      have hv : 0 ≤ v3 ∧ v3 ≤ 41 := by simp at hv3; omega
      clear hv3
      go_wp2
      go_meet
      exact ⟨v3.toNat, by omega, congrArg (Value.int .i64) (by omega), h3.mono (by omega), g3⟩
  case rest =>
    clear h2 g2
    obtain ⟨N, hN41, rfl, h3, g3⟩ := hcut
    rename World => w3
    go_wp2_with fail
    go_loopw [3] (fun v wr => ∃ (q : Nat) (D : Option Addr) (z : Nat) (L : List (Int × Int)), q ≤ N ∧ v = .slice D q z ∧ Cx R wr g A n c (k + 6 + 6 * q) l ∧ OwS R.heap.size wr D q z L ∧ Nw w D ∧ w.grownBy wr (some g)) (fun v _ => match v with | .slice _ q _ => N - q | _ => 0)
    case atStart => exact ⟨0, none, 0, [], by omega, rfl, h3.mono (by omega), OwS.nil_, Nw.nil_, g3⟩
    case round =>
      clear h3 g3
      obtain ⟨q, D, z, L, hq, rfl, hX, oD, hN, hG⟩ := hrel
      have hgl := hX.cur.lt
      have hsz := hG.size
      by_cases hlt : q < N
      · have hltI : (q : Int) < N := by omega
        go_wp2_with fail
        refine (pick_cx hX 9 (by omega) (by omega) (by omega)).mono ?_
        rintro e w4 ⟨r4, ⟨ha0, ha1⟩, rfl, hC4, hg4⟩
        have h4 := hX.grow hC4 hg4
        have o4 := oD.kept hg4 (hN.ne hgw)
        go_wp2_with fail
        refine (pick_cx h4 200 (by omega) (by omega) (by omega)).mono ?_
        rintro e w5 ⟨r5, ⟨hb0, hb1⟩, rfl, hC5, hg5⟩
        have h5 := h4.grow hC5 hg5
        have o5 := o4.kept hg5 (hN.ne hgw)
        have hgl5 := h5.cur.lt
        go_wp2_with fail
        refine (among_cx (h5.below (bAlloc (Below.refl _ w5) _)) 5 5 [30, 160, 240, 300, 30 + r5] (by omega) (int_lit [30, 160, 240, 300, 30 + r5] (by simp [maxLen]) _ rfl) hgl5 (by omega) (by omega)).mono ?_
        rintro e w6 ⟨v6, hv6, rfl, hC6, hg6⟩
        have h6 := (h5.below (bAlloc (Below.refl _ w5) _)).grow hC6 hg6
        have o6 := (o5.below (bAlloc (Below.refl _ w5) _)).kept hg6 (hN.ne hgw)
        have hB6 := h6.bel
        have hqb : q ≤ 1099511627776 := by omega
        have g6 := ((hG.trans hg4).trans hg5).trans ((World.grownBy_alloc w5 _ _).trans hg6)
        have hsz6 := g6.size
        clear hv6
        go_wp2_with (at_builtin; (refine wpl_push_slot R _ _ _ _ ?_ rfl _ _ rfl D q z _ rfl o6 ?_ ?_ rfl hqb ?_); (focus (first | rfl | (simp; done))); (focus (repeat (first | exact Below.refl _ _ | assumption | refine bExt ?_ _ | refine bAlloc ?_ _ | refine bDrewN ?_ _ | refine bDrew ?_ | refine bSet ?_ (by first | exact Nat.le_refl _ | omega | (simp; done) | (simp; omega)) _))); (focus (repeat (first | exact Below.refl _ _ | assumption | refine bExt ?_ _ | refine bAlloc ?_ _ | refine bDrewN ?_ _ | refine bDrew ?_ | refine bSet ?_ (by first | exact Nat.le_refl _ | omega | (simp; done) | (simp; omega)) _))); intro D' z' y7 o7 hga hda)
        have hN' := hN.push hsz6 hda
        have h7 := h6.row hga (hN.ne' hgw) (fun b hb => (o6.blk hb).1)
        have g7 := grown_new g6 hga hN
        go_roundw
        case rel => exact ⟨q + 1, D', z', _, by omega, rfl, h7.mono (by omega), o7, hN', g7⟩
        case measure => simp; omega
      · obtain rfl : q = N := by omega
        by_cases hq0 : ¬ (0 : Int) < q
        · go_wp2
          go_ret
          exact ⟨D, q, z, L, rfl, by omega, hX.mono (by omega), oD, hN, hG⟩
        · have hqI : (0 : Int) < q := by omega
          have hqN : 0 < q := by omega
          go_wp2_with fail
          refine (pick_cx hX q (by omega) (by omega) (by omega)).mono ?_
          rintro e w4 ⟨r4, ⟨ha0, ha1⟩, rfl, hC4, hg4⟩
          have h4 := hX.grow hC4 hg4
          have o4 := oD.kept hg4 (hN.ne hgw)
          have g4 := hG.trans hg4
          obtain ⟨i, rfl⟩ : ∃ i : Nat, r4 = i := ⟨r4.toNat, by omega⟩
          obtain ⟨bD, rfl, hbD1, hbD2⟩ := o4.form_ (by omega)
          have hiI : (i : Int) < q := by omega
          go_wp2_with fail
          refine (pick_cx h4 24 (by omega) (by omega) (by omega)).mono ?_
          rintro e w5 ⟨r5, ⟨hb0, hb1⟩, rfl, hC5, hg5⟩
          have h5 := h4.grow hC5 hg5
          have o5 := o4.kept hg5 (hN.ne hgw)
          have g5 := g4.trans hg5
          have hgl5 := h5.cur.lt
          by_cases e0 : r5 = 0
          · subst e0
            have hc0 := (o5.cell_ 0 (by omega)).1
            rw [Nat.zero_mul] at hc0
            generalize (L[0]?.getD (0, 0)).1 = sk0 at hc0
            go_wp2_with fail
            refine (among_cx (h5.below (bAlloc (Below.refl _ w5) _)) 4 4 [0, 999, 1000, sk0] (by omega) (int_lit [0, 999, 1000, sk0] (by simp [maxLen]) _ rfl) hgl5 (by omega) (by omega)).mono ?_
            rintro e w6 ⟨v6, hv6, rfl, hC6, hg6⟩
            have h6 := (h5.below (bAlloc (Below.refl _ w5) _)).grow hC6 hg6
            have o6 := (o5.below (bAlloc (Below.refl _ w5) _)).kept hg6 (hN.ne hgw)
            have g6 := g5.trans ((World.grownBy_alloc w5 _ _).trans hg6)
            have hc6 := o6.cell_ i (by omega)
            have hf6 := o6.frozen_ (i * 2)
            have hst := o6.set0_ i (by omega) v6
            clear hv6
            go_wp2
            go_ret
            exact ⟨some ⟨bD, 0, none⟩, q, z, _, rfl, by omega, (h6.row hst.2 (hN.ne' hgw) (fun b hb => by injection hb with hb; omega)).mono (by omega), hst.1, hN, grown_new (D := some ⟨bD, 0, none⟩) g6 hst.2 hN⟩
          · by_cases e1 : r5 = 1
            · subst e1
              go_wp2_with fail
              refine (among_cx (h5.below (bAlloc (Below.refl _ w5) _)) 2 2 [29, 301] (by omega) (int_lit [29, 301] (by simp [maxLen]) _ rfl) hgl5 (by omega) (by omega)).mono ?_
              rintro e w6 ⟨v6, hv6, rfl, hC6, hg6⟩
              have h6 := (h5.below (bAlloc (Below.refl _ w5) _)).grow hC6 hg6
              have o6 := (o5.below (bAlloc (Below.refl _ w5) _)).kept hg6 (hN.ne hgw)
              have g6 := g5.trans ((World.grownBy_alloc w5 _ _).trans hg6)
              have hc6 := o6.cell_ i (by omega)
              have hf6 := o6.frozen_ (i * 2 + 1)
              have hst := o6.set1_ i (by omega) v6
              clear hv6
              go_wp2
              go_ret
              exact ⟨some ⟨bD, 0, none⟩, q, z, _, rfl, by omega, (h6.row hst.2 (hN.ne' hgw) (fun b hb => by injection hb with hb; omega)).mono (by omega), hst.1, hN, grown_new (D := some ⟨bD, 0, none⟩) g6 hst.2 hN⟩
            · go_wp2
              go_ret
              exact ⟨some ⟨bD, 0, none⟩, q, z, L, rfl, by omega, h5.mono (by omega), o5, hN, g5⟩
end Go.Proofs.YtpjaiihkgeabiaaDoor
namespace Go.Proofs.YtpjaiihkgeabiaaDoor
open Go.RowKit
theorem blk4 {w : World} {g ty : Nat} {x0 x1 x2 x3 : Value} (h : w.heap[g]? = some (.cells #[x0, x1, x2, x3] ty (0, 0))) : (w.cell? ⟨g, 0, none⟩ = some x0 ∧ w.cell? ⟨g, 1, none⟩ = some x1 ∧ w.cell? ⟨g, 2, none⟩ = some x2 ∧ w.cell? ⟨g, 3, none⟩ = some x3) ∧ w.frozen? ⟨g, 0, none⟩ = false ∧ w.frozen? ⟨g, 1, none⟩ = false ∧ w.frozen? ⟨g, 2, none⟩ = false ∧ w.frozen? ⟨g, 3, none⟩ = false := by
  refine ⟨⟨?_, ?_, ?_, ?_⟩, ?_, ?_, ?_, ?_⟩ <;> simp [World.cell?, World.frozen?, h]
theorem heap_kept {w w' : World} {b g : Nat} {o : Obj} (h : w.heap[b]? = some o) (hg : w.grownBy w' (some g)) (hne : b ≠ g) : w'.heap[b]? = some o := by
  have hlt : b < w.heap.size := by
    rcases Nat.lt_or_ge b w.heap.size with h' | h'
    · exact h'
    · simp [Array.getElem?_eq_none h'] at h
  rw [hg.block b hlt (fun e => hne (by injection e))]
  exact h
theorem heap_old {w w' : World} {b : Nat} {o : Obj} (h : w.heap[b]? = some o) (hb : Below w.heap.size w w') : w'.heap[b]? = some o := by
  have hlt : b < w.heap.size := by
    rcases Nat.lt_or_ge b w.heap.size with h' | h'
    · exact h'
    · simp [Array.getElem?_eq_none h'] at h
  rw [hb.block b hlt]
  exact h
def RetAl (R W : World) (g : Nat) (A : Option Addr) (n c k : Nat) (l : List Int) (L : List Int) (e : Ending) (w' : World) : Prop := ∃ r : Int, r ∈ L ∧ e = .returned (.int .i64 r) ∧ Cx R w' g A n c k l ∧ W.grownBy w' (some g)
/-- among, at a list that was just laid. -/
theorem among_lit {R W : World} {g n c k : Nat} {A : Option Addr} {l : List Int} (h : Cx R W g A n c k l) (hk : k ≤ 1099511627000) (L : List Int) (m : Nat) (b : Nat) (hb : b = W.heap.size) (hm : m = L.length) (hm1 : 1 ≤ m) (hm2 : m ≤ 1000) (cs : Array Value) (hcs : cs.toList = L.map (Value.int .i64)) (d : Nat) :
    Calls Tryd.prog 51 #[.pointer (some ⟨g, 0, none⟩), .slice (some ⟨b, 0, none⟩) m d] (W.alloc (.cells cs 3)) (RetAl R W g A n c (k + 2) l L) := by
  subst hb hm
  have h0 := h.below (bAlloc (Below.refl _ W) (.cells cs 3))
  refine (among_cx h0 L.length d L hk (int_lit L (by simp only [maxLen]; omega) cs hcs) h.cur.lt hm1 (by omega)).mono ?_
  rintro e w' ⟨r, hr, he, hC, hg⟩
  exact ⟨r, hr, he, h0.grow hC hg, (World.grownBy_alloc W _ _).trans hg⟩
theorem Cx.pick {R w : World} {g n c k : Nat} {A : Option Addr} {l : List Int} (h : Cx R w g A n c k l) {lo hi : Int} {k' : Nat} {e : Ending} {w' : World} (hr : RetNx w g A n c k' lo hi e w') : ∃ r : Int, (lo ≤ r ∧ r ≤ hi) ∧ e = .returned (.int .i64 r) ∧ Cx R w' g A n c k' l ∧ w.grownBy w' (some g) := by
  obtain ⟨r, h1, h2, h3, h4⟩ := hr; exact ⟨r, h1, h2, h.grow h3 h4, h4⟩
theorem grow_set {w w' : World} {g b : Nat} (h : w.grownBy w' (some g)) (hb : w.heap.size ≤ b) (j : Nat) (v : Value) : w.grownBy (w'.setCell ⟨b, j, none⟩ v) (some g) :=
  grown_new (D := some ⟨b, 0, none⟩) h (cur_grown w' b j v) (fun q hq => (show b = q by simpa [blkOf] using hq) ▸ hb)
theorem Cx.set {R w : World} {g n c k b : Nat} {A : Option Addr} {l : List Int} (h : Cx R w g A n c k l) (hb : R.heap.size ≤ b) (hne : b ≠ g) (j : Nat) (v : Value) : Cx R (w.setCell ⟨b, j, none⟩ v) g A n c k l :=
  h.row (cur_grown w b j v) (fun e => by injection e with e; exact hne e) (fun q hq => by injection hq with hq; omega)
def RetDay (R w : World) (g : Nat) (A : Option Addr) (n c k : Nat) (l : List Int) (e : Ending) (w' : World) : Prop := ∃ a0 a1 a2 a3 : Int, e = .returned (.agg #[.int .i64 a0, .int .i64 a1, .int .i64 a2, .int .i64 a3]) ∧ Cx R w' g A n c k l ∧ w.grownBy w' (some g)
set_option maxHeartbeats 4000000 in
theorem day_any {R w : World} {g n c k : Nat} {A : Option Addr} {l : List Int} (h : Cx R w g A n c k l) (hk : k ≤ 1000000) :
    Calls Tryd.prog 72 #[.pointer (some ⟨g, 0, none⟩)] w (RetDay R w g A n c (k + 12) l) := by
  have hgw := h.cur.lt
  go_enter Tryd.func72, Tryd.ntmps72
  go_wp2_with fail
  have hr0 := heap_alloc_new w (.cells #[.int .i64 0, .int .i64 0, .int .i64 0, .int .i64 0] 53)
  have h0 := h.below (bAlloc (Below.refl _ w) (.cells #[.int .i64 0, .int .i64 0, .int .i64 0, .int .i64 0] 53))
  have g0 := World.grownBy_alloc w (.cells #[.int .i64 0, .int .i64 0, .int .i64 0, .int .i64 0] 53) (some g)
  have hs0 : (w.alloc (.cells #[.int .i64 0, .int .i64 0, .int .i64 0, .int .i64 0] 53)).heap.size = w.heap.size + 1 := by simp
  generalize w.alloc (.cells #[.int .i64 0, .int .i64 0, .int .i64 0, .int .i64 0] 53) = W0 at *
  refine (among_lit h0 (by omega) [0, 36000, 86400] 3 _ hs0.symm rfl (by omega) (by omega) _ rfl 3).mono ?_
  rintro e w1 ⟨v1, hv1, rfl, h1, g1⟩
  have hr1 := heap_kept hr0 g1 (by omega)
  clear hv1 hs0
  go_wp2_with fail
  refine (pick_cx h1 8 (by omega) (by omega) (by omega)).mono ?_
  intro e w2 hp
  obtain ⟨v2, ⟨ha0, ha1⟩, rfl, h2, g2⟩ := h1.pick hp
  have hr2 := heap_kept hr1 g2 (by omega)
  clear hp
  go_wp2_with fail
  refine (among_lit h2 (by omega) [0, 240, 360, 600] 4 _ rfl rfl (by omega) (by omega) _ rfl 4).mono ?_
  rintro e w3 ⟨v3, hv3, rfl, h3, g3⟩
  have hr3 := heap_kept hr2 g3 (by omega)
  clear hv3
  go_wp2_with fail
  refine (among_lit h3 (by omega) [0, 60, 90, 300] 4 _ rfl rfl (by omega) (by omega) _ rfl 4).mono ?_
  rintro e w4 ⟨v4, hv4, rfl, h4, g4⟩
  have hr4 := heap_kept hr3 g4 (by omega)
  have G4 := (((g0.trans g1).trans g2).trans g3).trans g4
  clear hv4 hr0 hr1 hr2 hr3 g0 g1 g2 g3 g4 h0 h1 h2 h3
  go_wp2_with fail
  have hd5 := heap_alloc_new w4 (.cells #[.int .i64 v1, .int .i64 (1 + v2), .int .i64 v3, .int .i64 v4] 53)
  have h5 := h4.below (bAlloc (Below.refl _ w4) (.cells #[.int .i64 v1, .int .i64 (1 + v2), .int .i64 v3, .int .i64 v4] 53))
  have hr5 := heap_old hr4 (bAlloc (Below.refl _ w4) (.cells #[.int .i64 v1, .int .i64 (1 + v2), .int .i64 v3, .int .i64 v4] 53))
  have G5 := G4.trans (World.grownBy_alloc w4 (.cells #[.int .i64 v1, .int .i64 (1 + v2), .int .i64 v3, .int .i64 v4] 53) (some g))
  have hgb := h4.cur.lt
  have hrb : w.heap.size < w4.heap.size := by
    rcases Nat.lt_or_ge w.heap.size w4.heap.size with h' | h'
    · exact h'
    · simp [Array.getElem?_eq_none h'] at hr4
  generalize w4.alloc (.cells #[.int .i64 v1, .int .i64 (1 + v2), .int .i64 v3, .int .i64 v4] 53) = W5 at *
  generalize w4.heap.size = b at *
  generalize 1 + v2 = v2' at *
  have hRw := h.bel.size
  generalize hrr : w.heap.size = r at *
  clear hr4 h4 G4
  refine (pick_cx h5 24 (by omega) (by omega) (by omega)).mono ?_
  intro e w6 hp
  obtain ⟨r6, ⟨hb0, hb1⟩, rfl, h6, g6⟩ := h5.pick hp
  have hr6 := heap_kept hr5 g6 (by omega)
  have hd6 := heap_kept hd5 g6 (by omega)
  have G6 := G5.trans g6
  clear hp hr5 hd5 g6 h5 G5
  have hn1 : ¬ r = b := by omega
  have hn2 : ¬ b = r := by omega
  by_cases e0 : r6 = 0
  · subst e0
    go_wp2_with fail
    refine (among_lit h6 (by omega) [-1, 86401] 2 _ rfl rfl (by omega) (by omega) _ rfl 2).mono ?_
    rintro e w7 ⟨v7, hv7, rfl, h7, g7⟩
    have hr7 := heap_kept hr6 g7 (by omega)
    have hd7 := heap_kept hd6 g7 (by omega)
    have G7 := G6.trans g7
    clear hr6 hd6 g7 h6 G6 hv7
    obtain ⟨⟨p0, p1, p2, p3⟩, p4, p5, p6, p7⟩ := blk4 hr7
    obtain ⟨⟨q0, q1, q2, q3⟩, q4, q5, q6, q7⟩ := blk4 hd7
    have Hr := Lib.hid hrr
    clear hr7 hd7 hrr
    go_wp2
    exact bodyPost_ret (v := .agg #[.int .i64 v7, .int .i64 v2', .int .i64 v3, .int .i64 v4]) (by simp [results, Tryd.results72, go_sem, *]) rfl ⟨_, _, _, _, rfl, by repeat (first | exact h7.mono (by omega) | refine Cx.set ?_ (by omega) (by omega) _ _), by repeat (first | exact G7 | refine grow_set ?_ (by rw [Hr.out]; omega) _ _)⟩
  · skip
    by_cases e1 : r6 = 1
    · subst e1
      go_wp2_with fail
      refine (among_lit h6 (by omega) [0, 9] 2 _ rfl rfl (by omega) (by omega) _ rfl 2).mono ?_
      rintro e w7 ⟨v7, hv7, rfl, h7, g7⟩
      have hr7 := heap_kept hr6 g7 (by omega)
      have hd7 := heap_kept hd6 g7 (by omega)
      have G7 := G6.trans g7
      clear hr6 hd6 g7 h6 G6 hv7
      obtain ⟨⟨p0, p1, p2, p3⟩, p4, p5, p6, p7⟩ := blk4 hr7
      obtain ⟨⟨q0, q1, q2, q3⟩, q4, q5, q6, q7⟩ := blk4 hd7
      have Hr := Lib.hid hrr
      clear hr7 hd7 hrr
      go_wp2
      exact bodyPost_ret (v := .agg #[.int .i64 v1, .int .i64 v7, .int .i64 v3, .int .i64 v4]) (by simp [results, Tryd.results72, go_sem, *]) rfl ⟨_, _, _, _, rfl, by repeat (first | exact h7.mono (by omega) | refine Cx.set ?_ (by omega) (by omega) _ _), by repeat (first | exact G7 | refine grow_set ?_ (by rw [Hr.out]; omega) _ _)⟩
    · skip
      by_cases e2 : r6 = 2
      · subst e2
        go_wp2_with fail
        refine (among_lit h6 (by omega) [-1, 601] 2 _ rfl rfl (by omega) (by omega) _ rfl 2).mono ?_
        rintro e w7 ⟨v7, hv7, rfl, h7, g7⟩
        have hr7 := heap_kept hr6 g7 (by omega)
        have hd7 := heap_kept hd6 g7 (by omega)
        have G7 := G6.trans g7
        clear hr6 hd6 g7 h6 G6 hv7
        obtain ⟨⟨p0, p1, p2, p3⟩, p4, p5, p6, p7⟩ := blk4 hr7
        obtain ⟨⟨q0, q1, q2, q3⟩, q4, q5, q6, q7⟩ := blk4 hd7
        have Hr := Lib.hid hrr
        clear hr7 hd7 hrr
        go_wp2
        exact bodyPost_ret (v := .agg #[.int .i64 v1, .int .i64 v2', .int .i64 v7, .int .i64 v4]) (by simp [results, Tryd.results72, go_sem, *]) rfl ⟨_, _, _, _, rfl, by repeat (first | exact h7.mono (by omega) | refine Cx.set ?_ (by omega) (by omega) _ _), by repeat (first | exact G7 | refine grow_set ?_ (by rw [Hr.out]; omega) _ _)⟩
      · skip
        by_cases e3 : r6 = 3
        · subst e3
          go_wp2_with fail
          refine (among_lit h6 (by omega) [-1, 301] 2 _ rfl rfl (by omega) (by omega) _ rfl 2).mono ?_
          rintro e w7 ⟨v7, hv7, rfl, h7, g7⟩
          have hr7 := heap_kept hr6 g7 (by omega)
          have hd7 := heap_kept hd6 g7 (by omega)
          have G7 := G6.trans g7
          clear hr6 hd6 g7 h6 G6 hv7
          obtain ⟨⟨p0, p1, p2, p3⟩, p4, p5, p6, p7⟩ := blk4 hr7
          obtain ⟨⟨q0, q1, q2, q3⟩, q4, q5, q6, q7⟩ := blk4 hd7
          have Hr := Lib.hid hrr
          clear hr7 hd7 hrr
          go_wp2
          exact bodyPost_ret (v := .agg #[.int .i64 v1, .int .i64 v2', .int .i64 v3, .int .i64 v7]) (by simp [results, Tryd.results72, go_sem, *]) rfl ⟨_, _, _, _, rfl, by repeat (first | exact h7.mono (by omega) | refine Cx.set ?_ (by omega) (by omega) _ _), by repeat (first | exact G7 | refine grow_set ?_ (by rw [Hr.out]; omega) _ _)⟩
        · skip
          obtain ⟨⟨p0, p1, p2, p3⟩, p4, p5, p6, p7⟩ := blk4 hr6
          obtain ⟨⟨q0, q1, q2, q3⟩, q4, q5, q6, q7⟩ := blk4 hd6
          have Hr := Lib.hid hrr
          clear hr6 hd6 hrr
          go_wp2
          exact bodyPost_ret (v := .agg #[.int .i64 v1, .int .i64 v2', .int .i64 v3, .int .i64 v4]) (by simp [results, Tryd.results72, go_sem, *]) rfl ⟨_, _, _, _, rfl, by repeat (first | exact h6.mono (by omega) | refine Cx.set ?_ (by omega) (by omega) _ _), by repeat (first | exact G6 | refine grow_set ?_ (by rw [Hr.out]; omega) _ _)⟩
end Go.Proofs.YtpjaiihkgeabiaaDoor
namespace Go.Proofs.YtpjaiihkgeabiaaDoor
open Go.RowKit
/-- Slots and a day in new memory. -/
def RetSD (w : World) (e : Ending) (w' : World) : Prop := ∃ (D : Option Addr) (q z : Nat) (L : List (Int × Int)) (a0 a1 a2 a3 : Int) (x : World), e = .returned (.tuple #[.slice D q z, .agg #[.int .i64 a0, .int .i64 a1, .int .i64 a2, .int .i64 a3]]) ∧ q ≤ 41 ∧ w' = ext w x ∧ OwS w.heap.size (ext w x) D q z L
/-- Slots, a day and an int. -/
def RetSDI (w : World) (e : Ending) (w' : World) : Prop := ∃ (D : Option Addr) (q z : Nat) (L : List (Int × Int)) (a0 a1 a2 a3 i : Int) (x : World), e = .returned (.tuple #[.slice D q z, .agg #[.int .i64 a0, .int .i64 a1, .int .i64 a2, .int .i64 a3], .int .i64 i]) ∧ q ≤ 41 ∧ w' = ext w x ∧ OwS w.heap.size (ext w x) D q z L
def RetSDII (w : World) (e : Ending) (w' : World) : Prop := ∃ (D : Option Addr) (q z : Nat) (L : List (Int × Int)) (a0 a1 a2 a3 i j : Int) (x : World), e = .returned (.tuple #[.slice D q z, .agg #[.int .i64 a0, .int .i64 a1, .int .i64 a2, .int .i64 a3], .int .i64 i, .int .i64 j]) ∧ q ≤ 41 ∧ w' = ext w x ∧ OwS w.heap.size (ext w x) D q z L
def RetIII (w : World) (e : Ending) (w' : World) : Prop := ∃ (i j k : Int) (x : World), e = .returned (.tuple #[.int .i64 i, .int .i64 j, .int .i64 k]) ∧ w' = ext w x
def zDay : Obj := .cells #[.int .i64 0, .int .i64 0, .int .i64 0, .int .i64 0] 53
/-- The start of a drawing function that hands back a day: the result's block, the cursor behind it. -/
theorem cx_day {w : World} {A : Option Addr} {n c : Nat} {l : List Int} (hr : RdY w A n l) (hn : n ≤ 9223372036854775807) :
    Cx (w.alloc zDay) ((w.alloc zDay).alloc (.cells #[.slice A n c, .int .i64 0, .int .u64 0] 76)) (w.heap.size + 1) A n c 0 l ∧ ((w.alloc zDay).alloc (.cells #[.slice A n c, .int .i64 0, .int .u64 0] 76)).heap[w.heap.size]? = some zDay := by
  have h := cx_new (c := c) (hr.below (bAlloc (Below.refl _ w) zDay)) hn
  have hs : (w.alloc zDay).heap.size = w.heap.size + 1 := by simp
  rw [hs] at h
  exact ⟨h, heap_old (heap_alloc_new w zDay) (bAlloc (Below.refl _ _) _)⟩
theorem Nw.old {w W : World} {D : Option Addr} (h : Nw W D) (r : Nat) (hr : r < W.heap.size) : blkOf D = none ∨ blkOf D ≠ some r := h.ne hr
theorem day_out {w W : World} {r : Nat} (hr : w.heap.size = r) (hB : Below r w W) (x0 x1 x2 x3 : Value) : ∃ x, Hid ((((W.setCell ⟨r, 0, none⟩ x0).setCell ⟨r, 1, none⟩ x1).setCell ⟨r, 2, none⟩ x2).setCell ⟨r, 3, none⟩ x3 = ext w x) := by
  subst hr
  exact ext_ex (bSet (bSet (bSet (bSet hB (p := ⟨w.heap.size, 0, none⟩) (Nat.le_refl _) x0) (p := ⟨w.heap.size, 1, none⟩) (Nat.le_refl _) x1) (p := ⟨w.heap.size, 2, none⟩) (Nat.le_refl _) x2) (p := ⟨w.heap.size, 3, none⟩) (Nat.le_refl _) x3)
theorem OwS.day {base q z r : Nat} {W : World} {D : Option Addr} {L : List (Int × Int)} (h : OwS base W D q z L) (hne : blkOf D = none ∨ blkOf D ≠ some r) (x0 x1 x2 x3 : Value) :
    OwS base ((((W.setCell ⟨r, 0, none⟩ x0).setCell ⟨r, 1, none⟩ x1).setCell ⟨r, 2, none⟩ x2).setCell ⟨r, 3, none⟩ x3) D q z L :=
  (((h.kept (cur_grown _ r 0 x0) hne).kept (cur_grown _ r 1 x1) hne).kept (cur_grown _ r 2 x2) hne).kept (cur_grown _ r 3 x3) hne
end Go.Proofs.YtpjaiihkgeabiaaDoor
namespace Go.Proofs.YtpjaiihkgeabiaaDoor
open Go.RowKit
theorem day_outD {w W : World} {r : Nat} (hr : w.heap.size = r) (hB : Below r w W) (x0 x1 x2 x3 : Value) : ∃ x, Hid (((((W.setCell ⟨r, 0, none⟩ x0).setCell ⟨r, 1, none⟩ x1).setCell ⟨r, 2, none⟩ x2).setCell ⟨r, 3, none⟩ x3).drew = ext w x) := by
  subst hr
  exact ext_ex (bDrew (bSet (bSet (bSet (bSet hB (p := ⟨w.heap.size, 0, none⟩) (Nat.le_refl _) x0) (p := ⟨w.heap.size, 1, none⟩) (Nat.le_refl _) x1) (p := ⟨w.heap.size, 2, none⟩) (Nat.le_refl _) x2) (p := ⟨w.heap.size, 3, none⟩) (Nat.le_refl _) x3))
/-- What stands when slots and a day are drawn: the result's block r, the cursor behind it, the day's block b. -/
structure SD (w W : World) (r b : Nat) (A : Option Addr) (n c k : Nat) (l : List Int) (D : Option Addr) (q z : Nat) (L : List (Int × Int)) (a0 a1 a2 a3 : Int) : Prop where
  cx : Cx (w.alloc zDay) W (r + 1) A n c k l
  bel : Below r w W
  hz : W.heap[r]? = some zDay
  hd : W.heap[b]? = some (.cells #[.int .i64 a0, .int .i64 a1, .int .i64 a2, .int .i64 a3] 53)
  hb : r + 1 < b
  oD : OwS (r + 1) W D q z L
  nD : blkOf D = none ∨ blkOf D ≠ some (r + 1)
  nR : blkOf D = none ∨ blkOf D ≠ some r
  hq : q ≤ 41
theorem SD.step {w W W' : World} {r b : Nat} {A : Option Addr} {n c k k' : Nat} {l : List Int} {D : Option Addr} {q z : Nat} {L : List (Int × Int)} {a0 a1 a2 a3 : Int} (h : SD w W r b A n c k l D q z L a0 a1 a2 a3) (hX : Cx (w.alloc zDay) W' (r + 1) A n c k' l) (hg : W.grownBy W' (some (r + 1))) : SD w W' r b A n c k' l D q z L a0 a1 a2 a3 := by
  have hb := h.hb
  refine ⟨hX, ?_, heap_kept h.hz hg (by omega), heap_kept h.hd hg (by omega), hb, h.oD.kept hg h.nD, h.nD, h.nR, h.hq⟩
  have hB := h.bel
  have hlt := (Array.getElem?_eq_some_iff.1 h.hz).1
  exact ⟨hg.os.trans hB.os, hg.tape.trans hB.tape, hg.output.trans hB.output, Nat.le_trans hB.size hg.size, fun j hj => by rw [hg.block j (Nat.lt_trans hj hlt) (fun e => by injection e; omega)]; exact hB.block j hj⟩
theorem SD.below {w W W' : World} {r b : Nat} {A : Option Addr} {n c k : Nat} {l : List Int} {D : Option Addr} {q z : Nat} {L : List (Int × Int)} {a0 a1 a2 a3 : Int} (h : SD w W r b A n c k l D q z L a0 a1 a2 a3) (hb : Below W.heap.size W W') : SD w W' r b A n c k l D q z L a0 a1 a2 a3 :=
  h.step (h.cx.below hb) (grownBy_of_below hb)
theorem SD.rd {w W : World} {r b : Nat} {A : Option Addr} {n c k : Nat} {l : List Int} {D : Option Addr} {q z : Nat} {L : List (Int × Int)} {a0 a1 a2 a3 : Int} (h : SD w W r b A n c k l D q z L a0 a1 a2 a3) : RdS W D q L := h.oD.rd
theorem some_ne {A : Option Addr} {g : Nat} (h : blkOf A = none ∨ blkOf A ≠ some g) : blkOf A ≠ some g := by
  rcases h with h | h
  · rw [h]; exact fun e => by cases e
  · exact h
end Go.Proofs.YtpjaiihkgeabiaaDoor
