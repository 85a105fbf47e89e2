/- The law file's functions on items: copies, sizes, comparing. Conditions: lengths below 2^40. -/
import Derived.Test.YtmeaklaagglmeaaGreatDoorYLawEl
import Derived.Test.YtmeaklaagglmeaaGreatDoorYItemQ
set_option linter.unusedVariables false
set_option linter.unusedSimpArgs false
set_option maxRecDepth 100000
namespace Go.Proofs.YtmeaklaagglmeaaGreatDoor
open Go.ChangeShapes Go.WideShapes Go.ChangeAt Go.RowKit
theorem OwI.setLow {base n c g k : Nat} {w : World} {A : Option Addr} {l : List Int} {v : Value} (h : OwI base w A n c l) (hg : g < base) : OwI base (w.setCell ⟨g, k, none⟩ v) A n c l := by
 refine h.kept (gSetM w g k v) ?_
 cases hA : blkOf A with
 | none => exact .inl rfl
 | some z => exact .inr fun e => by have := (h.blk hA).1; injection e with e; omega
theorem OwT.setLow {base n c g k : Nat} {w : World} {A : Option Addr} {l : List ByteArray} {v : Value} (h : OwT base w A n c l) (hg : g < base) : OwT base (w.setCell ⟨g, k, none⟩ v) A n c l := by
 refine h.kept (gSetM w g k v) ?_
 cases hA : blkOf A with
 | none => exact .inl rfl
 | some z => exact .inr fun e => by have := (h.blk hA).1; injection e with e; omega
theorem Item_info : (Tryz.prog.info? 70).map (fun i => (i.zero, i.size, i.bytes)) = some (some (.agg #[.slice none 0 0, .slice none 0 0, .bool false]), 3, 56) := by kernel_rfl
abbrev C3 := Value × Value × Value
def nil3 : C3 := (.slice none 0 0, .slice none 0 0, .bool false)
def cells3 (l : List C3) : List Value := l.flatMap fun p => [p.1, p.2.1, p.2.2]
theorem cells3_cons (a : C3) (r : List C3) : cells3 (a :: r) = a.1 :: a.2.1 :: a.2.2 :: cells3 r := by simp [cells3]
theorem cells3_get (l : List C3) (k : Nat) (h : k < l.length) : (cells3 l)[k * 3]? = some (l[k]?.getD nil3).1 ∧ (cells3 l)[k * 3 + 1]? = some (l[k]?.getD nil3).2.1 ∧ (cells3 l)[k * 3 + 2]? = some (l[k]?.getD nil3).2.2 := by
 induction l generalizing k with
 | nil => simp at h
 | cons a r ih =>
  rw [cells3_cons]
  cases k with
  | zero => simp
  | succ k =>
   have := ih k (by simpa using h)
   rw [show (k + 1) * 3 = k * 3 + 1 + 1 + 1 by omega, show k * 3 + 1 + 1 + 1 + 1 = (k * 3 + 1) + 1 + 1 + 1 by omega, show k * 3 + 1 + 1 + 1 + 2 = (k * 3 + 2) + 1 + 1 + 1 by omega]
   simpa only [List.getElem?_cons_succ] using this
theorem cells3_set (m : List C3) (k : Nat) (x : C3) (h : k < m.length) : (((cells3 m).set (k * 3) x.1).set (k * 3 + 1) x.2.1).set (k * 3 + 2) x.2.2 = cells3 (m.set k x) := by
 induction m generalizing k with
 | nil => simp at h
 | cons p r ih =>
  rw [cells3_cons]
  cases k with
  | zero => simp [cells3_cons]
  | succ k =>
   rw [show (k + 1) * 3 = k * 3 + 1 + 1 + 1 by omega, show k * 3 + 1 + 1 + 1 + 1 = (k * 3 + 1) + 1 + 1 + 1 by omega, show k * 3 + 1 + 1 + 1 + 2 = (k * 3 + 2) + 1 + 1 + 1 by omega]
   simp only [List.set_cons_succ]
   rw [ih k (by simpa using h), cells3_cons]
end Go.Proofs.YtmeaklaagglmeaaGreatDoor
