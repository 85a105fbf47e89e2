/- CuesOf and CuesBetween of the program and of the reference. Conditions: lengths below 2^40. -/
import Derived.Test.YtogglhgagblihaaZCues2
import Derived.Test.YtogglhgagblihaaZCues3
import Derived.Test.YtogglhgagblihaaZTimes3
set_option linter.unusedVariables false
set_option linter.unusedSimpArgs false
set_option maxRecDepth 100000
namespace Go.Proofs.Ytogglhgagblihaa
open Go.RowKit
/-- What a function that hands back cues in new memory and an ok ends with. -/
def Ret3B (e : Nat) (w : World) (l : List T3) (ok : Bool) (E : Ending) (w' : World) : Prop := ∃ A n c x, E = .returned (.tuple #[.slice A n c, .bool ok]) ∧ w' = ext w x ∧ Ow3 e w.heap.size (ext w x) A n c l
theorem Ret3B.mk_ {e : Nat} {w W : World} {base : Nat} {A : Option Addr} {n c : Nat} {l : List T3} {ok : Bool} (ho : Ow3 e base W A n c l) (hbase : w.heap.size ≤ base) (hb : Below w.heap.size w W) : Ret3B e w l ok (.returned (.tuple #[.slice A n c, .bool ok])) W := by
  obtain ⟨x, rfl⟩ := ext_ex hb
  exact ⟨A, n, c, x, rfl, rfl, ho.mono hbase⟩
def cuV (l : List (Int × Int)) (a b c gap : Int) : List T3 := if timedB l a b c gap then cuT l a b c gap else []
theorem cuV_len (l : List (Int × Int)) (a b c gap : Int) : (cuV l a b c gap).length ≤ 160 := by
  unfold cuV; split
  · exact cuT_len (by assumption)
  · simp
def cbB (l : List (Int × Int)) (a b c gap f t : Int) : Bool := timedB l a b c gap && (inB f 0 200000 && inB t 0 200000)
def cbL (T : List T3) (f t : Int) (k : Nat) : List T3 := (T.take k).filter fun q => inB q.1 f t
def cbV (l : List (Int × Int)) (a b c gap f t : Int) : List T3 := if cbB l a b c gap f t then cbL (cuT l a b c gap) f t (cuT l a b c gap).length else []
theorem cbL_yes {T : List T3} {f t : Int} {k : Nat} {x : T3} (h : k < T.length) (e : T[k]?.getD z3 = x) (hi : inB x.1 f t = true) : cbL T f t (k + 1) = cbL T f t k ++ [x] := by
  rw [cbL, take_succ_getD z3 T k h, e, List.filter_append, List.filter_cons_of_pos (by simpa using hi)]; rfl
theorem cbL_no {T : List T3} {f t : Int} {k : Nat} {x : T3} (h : k < T.length) (e : T[k]?.getD z3 = x) (hi : inB x.1 f t = false) : cbL T f t (k + 1) = cbL T f t k := by
  rw [cbL, take_succ_getD z3 T k h, e, List.filter_append, List.filter_cons_of_neg (by simp [hi])]; simp [cbL]
theorem cbV_len (l : List (Int × Int)) (a b c gap f t : Int) : (cbV l a b c gap f t).length ≤ 160 := by
  unfold cbV; split
  · rename_i h
    simp only [cbB, Bool.and_eq_true] at h
    refine Nat.le_trans (List.length_filter_le _ _) ?_
    rw [List.take_length]; exact cuT_len h.1
  · simp
theorem dj_app {A A' B : Option Addr} {e s base n c : Nat} {xs : List Value} {W W' : World} (h : Dj A B) (hB : Ow e s base W B n c xs) (hW : W.heap.size ≤ W'.heap.size) (hd : blkOf A' = blkOf A ∨ blkOf A' = some W'.heap.size) : Dj A' B := by
  intro g hA hBg
  rcases hd with hd | hd
  · exact h g (by rw [← hd]; exact hA) hBg
  · rw [hd] at hA
    cases hA
    have := (hB.blk hBg).2
    omega
end Go.Proofs.Ytogglhgagblihaa
