/- The reference's cursor: what next, pick, one, among do. Conditions: fewer than 2^40 choices, inputs below 2^40 bytes. -/
import Derived.Test.YtmeaklaagglmeaaGreatDoorXLawKit
import Derived.Test.YtmeaklaagglmeaaGreatDoorXInts
import Derived.Laws.Bits64b
import Derived.Laws.Rows
import Derived.Test.YtmeaklaagglmeaaGreatDoorXMarks5
set_option linter.unusedVariables false
set_option linter.unusedSimpArgs false
set_option maxRecDepth 100000
namespace Go.Proofs.YtmeaklaagglmeaaGreatDoor
open Go.RowKit
end Go.Proofs.YtmeaklaagglmeaaGreatDoor
namespace Go.Proofs.YtmeaklaagglmeaaGreatDoor
open Go.RowKit
theorem RdI.kept {w w' : World} {A : Option Addr} {n g : Nat} {l : List Int} (h : RdI w A n l) (hg : w.grownBy w' (some g)) (hne : blkOf A ≠ some g) : RdI w' A n l := by
 refine ⟨h.1, fun hn => ?_⟩
 obtain ⟨b, off, rfl, hlt, hc⟩ := h.2 hn
 refine ⟨b, off, rfl, Nat.lt_of_lt_of_le hlt hg.size, fun j u hu => ?_⟩
 exact hg.cell (a := ⟨b, off + j, none⟩) (hc j u hu) (fun e => hne e)
end Go.Proofs.YtmeaklaagglmeaaGreatDoor
namespace Go.Proofs.YtmeaklaagglmeaaGreatDoor
open Go.RowKit
end Go.Proofs.YtmeaklaagglmeaaGreatDoor
namespace Go.Proofs.YtmeaklaagglmeaaGreatDoor
open Go.RowKit
end Go.Proofs.YtmeaklaagglmeaaGreatDoor
namespace Go.Proofs.YtmeaklaagglmeaaGreatDoor
open Go.RowKit
end Go.Proofs.YtmeaklaagglmeaaGreatDoor
namespace Go.Proofs.YtmeaklaagglmeaaGreatDoor
open Go.RowKit
end Go.Proofs.YtmeaklaagglmeaaGreatDoor
namespace Go.Proofs.YtmeaklaagglmeaaGreatDoor
open Go.RowKit
theorem row_info : (Tryz.prog.info? 23).map (fun i => (i.zero, i.size, i.bytes)) = some (some (.slice none 0 0), 1, 24) := by kernel_rfl
section
variable {ops : Array Oper} {rest : List Oper} {o : Oper} {a : Act} {Q : Exit → Act → World → Prop}
theorem wpl_push_row (R W : World) (B0 : Option Addr) (m0 d0 : Nat) (gx : Nat) (hgx : gx = W.heap.size) (hgd : o.guard = none) (s x : Operand) (ho : o.op = .call { callee := .builtin .append, args := #[s, x], argTypes := #[28, 28] })
  (A : Option Addr) (n c : Nat) (xs : List Value) (hs : a.eval s = .slice A n c) {base : Nat} (hbase : R.heap.size ≤ base) (hbW : base ≤ W.heap.size) {W₀ : World} (hown₀ : Ow 23 1 base W₀ A n c xs) (hW₀ : Below W₀.heap.size W₀ W) (hR : Below R.heap.size R W)
  (hx : a.eval x = .slice (some ⟨gx, 0, none⟩) 1 1) (hn : n ≤ 1099511627776)
  (h : ∀ A' c' y, Ow 23 1 base (ext R y) A' (n + 1) c' (xs ++ [.slice B0 m0 d0]) → W.grownBy (ext R y) (blkOf A) → (blkOf A' = blkOf A ∨ ∃ g, blkOf A' = some g ∧ W.heap.size < g) → wpList Tryz.prog ops Q rest (a.put o.dst (.slice A' (n + 1) c')) (ext R y)) :
  wpList Tryz.prog ops Q (o :: rest) a (W.alloc (.cells #[.slice B0 m0 d0] 23)) := by
 subst hgx
 have hown := hown₀.below hW₀
 obtain ⟨i0, hi0, hz0, hz1, hz2⟩ := info_parts row_info
 have hRw : Below R.heap.size R (W.alloc (.cells #[.slice B0 m0 d0] 23)) := bAlloc hR _
 have hown1 := hown.below (bAlloc (Below.refl W.heap.size W) (.cells #[.slice B0 m0 d0] 23))
 refine wpList_append_own_at _ hgd s x _ ho base 23 i0 (.slice none 0 0) 1 24 Tryz.underlying28 hi0 hz0 hz1 hz2 rfl (by omega) (.slice A n c) n xs hs hown1
  ⟨W.heap.size, 0, none⟩ 1 1 [.slice B0 m0 d0] hx rfl ?_ (by simp [Value.oneCell']) (by simp only [maxLen]; omega) (by omega) (by simp; omega) ?_
 ·
  intro j u hu
  match j with
  | 0 => simp at hu; subst hu; simp [Addr.add, go_sem]
  | j + 1 => simp at hu
 ·
  intro v' w' hown' hg _ hd
  rw [ownBlock_slice] at hg hd
  have hBw : Below R.heap.size R w' := below_grown hRw hg (fun k hk => Nat.le_trans hbase (hown1.blk hk).1)
  obtain ⟨y, rfl⟩ := ext_ex hBw
  rcases hown'.2 with ⟨_, h0⟩ | ⟨g', cap, cur, rfl, hrest⟩
  ·
   omega
  ·
   rw [ownBlock_slice] at hd
   refine h _ _ y hown' ((World.grownBy_alloc W _ _).trans hg) ?_
   rcases hd with hd | hd
   ·
    exact .inl hd
   ·
    exact .inr ⟨_, hd, by simp⟩
end
section
variable {S : Nat → Prop} {w w' : World} {A : Option Addr} {n c : Nat} {ll : List (List Int)}
end
end Go.Proofs.YtmeaklaagglmeaaGreatDoor
