/- The library's insertion sort of ints by a comparison, as the program calls it. Conditions: lengths below 2^40. -/
import Derived.Test.YtpjaiihkgeabiaaDoorStableP
import Derived.Test.YtpjaiihkgeabiaaDoorInts
import Derived.Test.YtpjaiihkgeabiaaDoorLawKit
import Derived.Deep.RegionHeld3
import Derived.RegionTactic
set_option linter.unusedVariables false
set_option linter.unusedSimpArgs false
set_option maxRecDepth 100000
namespace Go.Proofs.YtpjaiihkgeabiaaDoor
open Go.RowKit
/-- The comparison (a closure with one captured pointer) answers by the key, for the elements of D, in every world that differs from w in the row alone. -/
def CmpI (F : FuncId) (p : Value) (key : Int → Int) (D : List Int) (row : Option Nat) (w : World) : Prop := ∀ w', w.grownBy w' row → ∀ x y, x ∈ D → y ∈ D →
  Calls Tryd.prog F #[.int .i64 x, .int .i64 y, p] w' fun e w'' => e = .returned (.int .i64 (key x - key y)) ∧ ∃ m, w'' = w'.drewN m
theorem CmpI.next {F : FuncId} {p : Value} {key : Int → Int} {D : List Int} {row : Option Nat} {w w' : World} (h : CmpI F p key D row w) (hg : w.grownBy w' row) : CmpI F p key D row w' := fun w'' h2 => h w'' (hg.trans h2)
theorem CmpI.sub {F : FuncId} {p : Value} {key : Int → Int} {D D' : List Int} {row : Option Nat} {w : World} (h : CmpI F p key D row w) (hs : ∀ x ∈ D', x ∈ D) : CmpI F p key D' row w := fun w' h2 x y hx hy => h w' h2 x y (hs x hx) (hs y hy)
theorem quietC {P : Program} {f : FuncId} {args : Array Value} {w : World} {n : Nat} {v : Value} (h : Calls P f args (w.drewN n) fun e w' => e = .returned v ∧ ∃ m, w' = (w.drewN n).drewN m) : Calls P f args (w.drewN n) fun e w'' => e = .returned v ∧ ∃ m, w'' = w.drewN m :=
  h.mono fun _ _ ⟨he, m, hm⟩ => ⟨he, n + m, by rw [hm, World.drewN_drewN]⟩
theorem grown_ext {w : World} (x : World) (row : Option Nat) : w.grownBy (ext w x) row := grownBy_of_below (ext_below w x)
/-- The list while x = U's head is on its way down through T. -/
def insD (P T : List Int) (x : Int) (U : List Int) (q : Nat) : List Int := P ++ T.take q ++ x :: T.drop q ++ U
theorem insD_at {P T U : List Int} {x : Int} {q : Nat} (hq : q ≤ T.length) : (insD P T x U q)[P.length + q]?.getD 0 = x := by
  unfold insD
  rw [List.append_assoc, List.getElem?_append_right (by simp; omega)]
  simp [show min q T.length = q by omega]
theorem insD_below {P T U : List Int} {x : Int} {q : Nat} (hq : q < T.length) : (insD P T x U (q + 1))[P.length + q]?.getD 0 = T[q]?.getD 0 := by
  unfold insD
  rw [List.append_assoc, List.append_assoc, List.getElem?_append_right (by omega), List.getElem?_append_left (by simp; omega)]
  simp [show P.length + q - P.length = q by omega, List.getElem?_take_of_lt]
theorem insD_swap {P T U : List Int} {x : Int} {q : Nat} (hq : q < T.length) : ((insD P T x U (q + 1)).set (P.length + q + 1) (T[q]?.getD 0)).set (P.length + q) x = insD P T x U q := by
  have e1 : T.take (q + 1) = T.take q ++ [T[q]?.getD 0] := take_succ_getD 0 T q hq
  have e2 : T.drop q = (T[q]?.getD 0) :: T.drop (q + 1) := by rw [List.drop_eq_getElem_cons hq]; simp [hq]
  have hl : (P ++ T.take q).length = P.length + q := by simp; omega
  unfold insD
  rw [e1, e2]
  generalize T[q]?.getD 0 = y
  rw [show P ++ (T.take q ++ [y]) ++ x :: T.drop (q + 1) ++ U = (P ++ T.take q) ++ (y :: x :: (T.drop (q + 1) ++ U)) by simp,
    show P ++ T.take q ++ x :: (y :: T.drop (q + 1)) ++ U = (P ++ T.take q) ++ (x :: y :: (T.drop (q + 1) ++ U)) by simp]
  rw [List.set_append_right _ _ (by omega), List.set_append_right _ _ (by omega), hl]
  simp [show P.length + q + 1 - (P.length + q) = 1 by omega]
theorem insD_len {P T U : List Int} {x : Int} {q : Nat} : (insD P T x U q).length = P.length + T.length + 1 + U.length := by
  unfold insD
  have := congrArg List.length (List.take_append_drop q T)
  simp only [List.length_append] at this
  simp; omega
end Go.Proofs.YtpjaiihkgeabiaaDoor
