/- Append of one string to a row of the call's own. Conditions: lengths below 2^40. -/
import Derived.Test.YtfmidngndddfiaaGreatDoorLib
import Derived.Test.YtfmidngndddfiaaGreatDoorStrs
set_option linter.unusedVariables false
set_option linter.unusedSimpArgs false
set_option maxRecDepth 100000
namespace Go.Proofs.YtfmidngndddfiaaGreatDoor
open Go.RowKit
section
variable {ops : Array Oper} {rest : List Oper} {o : Oper} {a : Act} {Q : Exit → Act → World → Prop}
/-- append(s, v): one string onto a row of the call's own. R: the world of reference, W: the world before the one-cell block of v was made. -/
theorem wpl_push_strJ (R W : World) (v : ByteArray) (gx : Nat) (hgx : gx = W.heap.size) (hgd : o.guard = none) (s x : Operand) (ho : o.op = .call { callee := .builtin .append, args := #[s, x], argTypes := #[77, 77] })
    (A : Option Addr) (n c : Nat) (l : List ByteArray) (hs : a.eval s = .slice A n c) {W₀ : World} (hown₀ : OwT R.heap.size W₀ A n c l) (hW₀ : Below W₀.heap.size W₀ W) (hR : Below R.heap.size R W)
    (hx : a.eval x = .slice (some ⟨gx, 0, none⟩) 1 1) (hn : n ≤ 1099511627776)
    (h : ∀ A' c' y, OwT R.heap.size (ext R y) A' (n + 1) c' (l ++ [v]) → W.grownBy (ext R y) (blkOf A) → (blkOf A' = blkOf A ∨ ∃ g, blkOf A' = some g ∧ W.heap.size < g) → wpList Tryz.prog ops Q rest (a.put o.dst (.slice A' (n + 1) c')) (ext R y)) :
    wpList Tryz.prog ops Q (o :: rest) a (W.alloc (.cells #[.string v] 9)) := by
  subst hgx
  have hown := hown₀.below hW₀
  obtain ⟨i0, hi0, hz0, hz1, hz2⟩ := info_parts string_info
  have hRw : Below R.heap.size R (W.alloc (.cells #[.string v] 9)) := bAlloc hR _
  have hown1 := hown.below (bAlloc (Below.refl W.heap.size W) (.cells #[.string v] 9))
  refine wpList_append_own_at _ hgd s x _ ho R.heap.size 9 i0 (.string ByteArray.empty) 1 16 Tryz.underlying77 hi0 hz0 hz1 hz2 rfl (by omega) (.slice A n c) n (l.map Value.string) hs hown1
    ⟨W.heap.size, 0, none⟩ 1 1 [.string v] hx rfl ?_ (by simp [Value.oneCell']) (by simp only [maxLen]; omega) (by omega) hRw.size ?_
  · intro j u hu
    match j with
    | 0 => simp at hu; subst hu; simp [Addr.add, go_sem]
    | j + 1 => simp at hu
  · intro v' w' hown' hg _ hd
    rw [ownBlock_slice] at hg hd
    have hBw : Below R.heap.size R w' := below_grown hRw hg (fun k hk => (hown1.blk hk).1)
    obtain ⟨y, rfl⟩ := ext_ex hBw
    rcases hown'.2 with ⟨_, h0⟩ | ⟨g', cap, cur, rfl, hrest⟩
    · omega
    · rw [ownBlock_slice] at hd
      refine h _ _ y ?_ ((World.grownBy_alloc W _ _).trans hg) ?_
      · have : (l ++ [v]).map Value.string = l.map Value.string ++ [.string v] := by simp
        unfold OwT Ow
        rw [this]
        exact hown'
      · rcases hd with hd | hd
        · exact .inl hd
        · exact .inr ⟨_, hd, by simp⟩
end
end Go.Proofs.YtfmidngndddfiaaGreatDoor
