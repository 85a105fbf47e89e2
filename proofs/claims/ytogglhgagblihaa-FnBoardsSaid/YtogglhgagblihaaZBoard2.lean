/- The program's board: the walk of boardAt. Conditions: asked as the claim asks. -/
import Derived.Test.YtogglhgagblihaaZBoard
set_option linter.unusedVariables false
set_option linter.unusedSimpArgs false
set_option maxRecDepth 100000
namespace Go.Proofs.Ytogglhgagblihaa
open Go.RowKit
def RetBd (w : World) (S L : List Int) (e : Ending) (w' : World) : Prop := ∃ T, Srt (bKey S) T ∧ SF (bKey S) T L ∧ RetI w T e w'
theorem boardAt_any (w : World) (L : Option Addr) (n cl : Nat) (l : List (Int × Int)) (a b c gap t : Int) (A : Option Addr) (cs : Nat) (S : List Int) (hl : RdS w L n l) (hn : n ≤ 1099511627776) (ht : timedB l a b c gap = true) (hr : RdI w A n S) (hb : ∀ j : Nat, 0 ≤ S[j]?.getD 0 ∧ S[j]?.getD 0 ≤ 100000) :
    Calls Try.prog 84 #[.slice L n cl, .agg #[.int .i64 a, .int .i64 b, .int .i64 c, .int .i64 gap], .slice A n cs, .int .i64 t] w (RetBd w S (pickI (knAt l (runS l a b c gap 0 0) gap t) n)) := by
  have hpl := pickI_len (knAt l (runS l a b c gap 0 0) gap t) n
  have hpm := pickI_mem (p := knAt l (runS l a b c gap 0 0) gap t) (n := n)
  go_enter Try.func84, Try.ntmps84
  go_wp2_with ((go_at_call 89; ((with_reducible refine (knownAt_any _ _ _ _ _ _ _ _ _ _ (hl.below (by repeat (first | exact Below.refl _ _ | assumption | refine bExt ?_ _ | refine bAlloc ?_ _ | refine bDrewN ?_ _ | refine bDrew ?_ | refine bSet ?_ (by first | exact Nat.le_refl _ | omega | (simp; done) | (simp; omega)) _))) hn ht).mono ?_); rintro e w' ⟨A1, n1, c1, x, rfl, rfl, o1⟩)))
  have hl1 := o1.len
  refine (sortStableO _ _ _ _ _ _ (bKey S) _ o1 (by omega) (fun g hg => boardC _ _ _ A n cs S _ g (hr.below (by repeat (first | exact Below.refl _ _ | assumption | refine bExt ?_ _ | refine bAlloc ?_ _ | refine bDrewN ?_ _ | refine bDrew ?_ | refine bSet ?_ (by first | exact Nat.le_refl _ | omega | (simp; done) | (simp; omega)) _))) ?_ hb ?_ hpm (ext_below _ _) hg)).mono ?_
  · simp [go_sem]
  · simp [go_sem]
  · rintro _ w2 ⟨rfl, T, h1, h2, o2, row, hg, hrow⟩
    have hB : Below w.heap.size w w2 := Below.grown (w := ext _ _) (by repeat (first | exact Below.refl _ _ | assumption | refine bExt ?_ _ | refine bAlloc ?_ _ | refine bDrewN ?_ _ | refine bDrew ?_ | refine bSet ?_ (by first | exact Nat.le_refl _ | omega | (simp; done) | (simp; omega)) _)) hg (base_le (by repeat (first | exact Below.refl _ _ | assumption | refine bExt ?_ _ | refine bAlloc ?_ _ | refine bDrewN ?_ _ | refine bDrew ?_ | refine bSet ?_ (by first | exact Nat.le_refl _ | omega | (simp; done) | (simp; omega)) _))) (fun k hk => Nat.le_trans (base_le (by repeat (first | exact Below.refl _ _ | assumption | refine bExt ?_ _ | refine bAlloc ?_ _ | refine bDrewN ?_ _ | refine bDrew ?_ | refine bSet ?_ (by first | exact Nat.le_refl _ | omega | (simp; done) | (simp; omega)) _))) (hrow k hk))
    have hbs := Lib.hid (fun k (h : k = w.heap.size) => h)
    go_wp2
    go_ret
    exact ⟨T, h1, h2, RetI.mk_ o2 (base_le (by repeat (first | exact Below.refl _ _ | assumption | refine bExt ?_ _ | refine bAlloc ?_ _ | refine bDrewN ?_ _ | refine bDrew ?_ | refine bSet ?_ (by first | exact Nat.le_refl _ | omega | (simp; done) | (simp; omega)) _))) hB⟩
end Go.Proofs.Ytogglhgagblihaa
