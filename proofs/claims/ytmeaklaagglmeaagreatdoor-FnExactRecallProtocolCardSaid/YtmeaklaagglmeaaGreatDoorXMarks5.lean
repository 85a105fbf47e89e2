/- Marking of tables and of Marks; short forms of the contracts on Marks for the laws. Conditions: lengths below 2^40. -/
import Derived.Test.YtmeaklaagglmeaaGreatDoorXMarksC
set_option linter.unusedVariables false
set_option linter.unusedSimpArgs false
set_option maxRecDepth 100000
namespace Go.Proofs.YtmeaklaagglmeaaGreatDoor
open Go.ChangeShapes Go.WideShapes Go.ChangeAt Go.RowKit
structure Mid (lo hi : Nat) (w w' : World) : Prop where
 os : w'.os = w.os
 tape : w'.tape = w.tape
 output : w'.output = w.output
 size : w.heap.size ≤ w'.heap.size
 block : ∀ k, k < w.heap.size → k < lo ∨ hi ≤ k → w'.heap[k]? = w.heap[k]?
section
variable {lo hi : Nat} {w w' w'' R : World}
theorem Mid.refl : Mid lo hi w w := ⟨rfl, rfl, rfl, Nat.le_refl _, fun _ _ _ => rfl⟩
theorem Mid.trans (h : Mid lo hi w w') (k : Mid lo hi w' w'') : Mid lo hi w w'' :=
 ⟨k.os.trans h.os, k.tape.trans h.tape, k.output.trans h.output, Nat.le_trans h.size k.size, fun i hi hn => (k.block i (Nat.lt_of_lt_of_le hi h.size) hn).trans (h.block i hi hn)⟩
theorem Mid.mono {lo' hi' : Nat} (h : Mid lo hi w w') (h1 : lo' ≤ lo) (h2 : hi ≤ hi') : Mid lo' hi' w w' := ⟨h.os, h.tape, h.output, h.size, fun k hk hn => h.block k hk (by omega)⟩
theorem Mid.of_below (h : Below w.heap.size w w') : Mid lo hi w w' := ⟨h.os, h.tape, h.output, h.size, fun k hk _ => h.block k hk⟩
theorem Mid.of_grown {row : Option Nat} (h : w.grownBy w' row) (hr : ∀ k, row = some k → lo ≤ k ∧ k < hi) : Mid lo hi w w' :=
 ⟨h.os, h.tape, h.output, h.size, fun k hk hn => h.block k hk (fun e => by have := hr k e.symm; omega)⟩
theorem Mid.below (h : Mid lo hi w w') (hR : Below R.heap.size R w) (hlo : R.heap.size ≤ lo) : Below R.heap.size R w' :=
 hR.trans ⟨h.os, h.tape, h.output, h.size, fun k hk => h.block k (Nat.lt_of_lt_of_le hk hR.size) (by omega)⟩
theorem Mid.cell (h : Mid lo hi w w') {b o : Nat} {s : Option Nat} (hb : b < w.heap.size) (hn : b < lo ∨ hi ≤ b) : w'.cell? ⟨b, o, s⟩ = w.cell? ⟨b, o, s⟩ := World.cell?_of_block (h.block b hb hn)
theorem Ow.keptM {e s base n c : Nat} {A : Option Addr} {xs : List Value} (h : Ow e s base w A n c xs) (hg : Mid lo hi w w') (hn : ∀ g, blkOf A = some g → g < lo ∨ hi ≤ g) : Ow e s base w' A n c xs := by
 refine ⟨h.1, ?_⟩
 rcases h.2 with hnil | ⟨g, cap, cur, hv, hb, hgg, rest⟩
 ·
  exact .inl hnil
 ·
  refine .inr ⟨g, cap, cur, hv, hb, ?_, rest⟩
  simp at hv
  rw [hg.block g (Array.getElem?_eq_some_iff.1 hgg).1 (hn g (by rw [hv.1]; rfl))]
  exact hgg
theorem OwI.keptM {base n c : Nat} {A : Option Addr} {l : List Int} (h : OwI base w A n c l) (hg : Mid lo hi w w') (hn : ∀ g, blkOf A = some g → g < lo ∨ hi ≤ g) : OwI base w' A n c l := Ow.keptM h hg hn
end
section
variable {base hi n m c d : Nat} {w w' : World} {A B : Option Addr} {gg kk : List (List Int)}
end
theorem eqMk_any (w : World) (A B A' B' : Option Addr) (n m c d n' m' c' d' : Nat) (gg kk : List (List Int)) (hm : RdMk w A n B m gg kk) (hm' : RdMk w A' n' B' m' gg kk) :
  Calls Tryz.prog 57 #[.agg #[.slice A n c, .slice B m d], .agg #[.slice A' n' c', .slice B' m' d']] w fun e w' => e = .returned (.bool true) ∧ ∃ x, w' = ext w x :=
 eqMarks_any w A B A' B' n m c d n' m' c' d' gg kk hm.1 hm.2.1 hm'.1 hm'.2.1 hm.2.2.1 hm.2.2.2.1 hm.2.2.2.2.1 hm.2.2.2.2.2
end Go.Proofs.YtmeaklaagglmeaaGreatDoor
