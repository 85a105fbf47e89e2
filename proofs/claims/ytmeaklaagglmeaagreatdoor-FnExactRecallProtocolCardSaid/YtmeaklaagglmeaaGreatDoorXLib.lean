/- Plain words for memory: a world grown by new blocks (ext), a slice that reads as a list of cells (Rd), and their small lemmas. Conditions: none. -/
import Derived.Test.YtmeaklaagglmeaaGreatDoorRows
import Derived.WalkKit
import Derived.WalkSpells
import Derived.WalkLawsBesides
import Derived.Deep.QuietTactic
import Derived.BigQuiet
import Derived.BigGuardPart
import Derived.Deep.Draws
import Derived.CellFam
import Derived.Lib.Hide
set_option linter.unusedVariables false
set_option linter.unusedSimpArgs false
set_option maxRecDepth 100000
namespace Go.Proofs.YtmeaklaagglmeaaGreatDoor
open Go.RowKit

def ext (w x : World) : World := { heap := w.heap ++ x.heap, tape := w.tape, drawn := x.drawn, os := w.os, output := w.output }
theorem ext_size (w x : World) : (ext w x).heap.size = w.heap.size + x.heap.size := by simp [ext]
theorem ext_below (w x : World) : Below w.heap.size w (ext w x) :=
 ⟨rfl, rfl, rfl, by rw [ext_size]; omega, fun k hk => by simp [ext, Array.getElem?_append, hk]⟩
theorem ext_ex {w w' : World} (h : Below w.heap.size w w') : ∃ x, w' = ext w x := by
 refine ⟨{ w' with heap := w'.heap.extract w.heap.size w'.heap.size }, ?_⟩
 obtain ⟨h1, h2, h3, h4, h5⟩ := h
 cases w with | mk heap tape drawn os output =>
 cases w' with | mk heap' tape' drawn' os' output' =>
 simp only at h1 h2 h3 h4 h5
 subst h1 h2 h3
 simp only [ext, World.mk.injEq, and_true]
 apply Array.ext_getElem?
 intro i
 rw [Array.getElem?_append]
 split
 ·
  rename_i hi
  exact h5 i hi
 ·
  rename_i hi
  rw [Array.getElem?_extract]
  split
  ·
   congr 1; omega
  ·
   exact Array.getElem?_eq_none (by omega)
theorem ext_cell (w x : World) (b o : Nat) (s : Option Nat) (h : b < w.heap.size) : (ext w x).cell? ⟨b, o, s⟩ = w.cell? ⟨b, o, s⟩ := (ext_below w x).cell (p := ⟨b, o, s⟩) h
theorem ext_frozen (w x : World) (b o : Nat) (s : Option Nat) (h : b < w.heap.size) : (ext w x).frozen? ⟨b, o, s⟩ = w.frozen? ⟨b, o, s⟩ := (ext_below w x).frozen (p := ⟨b, o, s⟩) h
def NewLt (w x : World) (b k : Nat) : Prop := ¬ b < w.heap.size + k ∧ b < w.heap.size + x.heap.size + k
def NewLe (w x : World) (b k : Nat) : Prop := ¬ b ≤ w.heap.size + k ∧ b ≤ w.heap.size + x.heap.size + k
theorem ext_lt (w x : World) (b : Nat) : (b < (ext w x).heap.size) = (b < w.heap.size ∨ NewLt w x b 0) := by
 rw [ext_size, NewLt]; apply propext; constructor <;> intro h <;> omega
theorem ext_ltk (w x : World) (b k : Nat) : (b < (ext w x).heap.size + k) = (b < w.heap.size + k ∨ NewLt w x b k) := by
 rw [ext_size, NewLt]; apply propext; constructor <;> intro h <;> omega
theorem ext_lek0 (w x : World) (b : Nat) : (b ≤ (ext w x).heap.size) = (b ≤ w.heap.size ∨ NewLe w x b 0) := by
 rw [ext_size, NewLe]; apply propext; constructor <;> intro h <;> omega
theorem ext_lek (w x : World) (b k : Nat) : (b ≤ (ext w x).heap.size + k) = (b ≤ w.heap.size + k ∨ NewLe w x b k) := by
 rw [ext_size, NewLe]; apply propext; constructor <;> intro h <;> omega
theorem ext_cell_drew (w x : World) (b o : Nat) (s : Option Nat) (h : b < w.heap.size) : (ext w.drew x).cell? ⟨b, o, s⟩ = w.cell? ⟨b, o, s⟩ := (ext_below w x).cell (p := ⟨b, o, s⟩) h
theorem ext_frozen_drew (w x : World) (b o : Nat) (s : Option Nat) (h : b < w.heap.size) : (ext w.drew x).frozen? ⟨b, o, s⟩ = w.frozen? ⟨b, o, s⟩ := (ext_below w x).frozen (p := ⟨b, o, s⟩) h
theorem ext_cell_drewN (w x : World) (n b o : Nat) (s : Option Nat) (h : b < w.heap.size) : (ext (w.drewN n) x).cell? ⟨b, o, s⟩ = w.cell? ⟨b, o, s⟩ := (ext_below w x).cell (p := ⟨b, o, s⟩) h
theorem ext_frozen_drewN (w x : World) (n b o : Nat) (s : Option Nat) (h : b < w.heap.size) : (ext (w.drewN n) x).frozen? ⟨b, o, s⟩ = w.frozen? ⟨b, o, s⟩ := (ext_below w x).frozen (p := ⟨b, o, s⟩) h
theorem ext_lt_drew (w x : World) (b : Nat) : (b < (ext w.drew x).heap.size) = (b < w.heap.size ∨ NewLt w x b 0) := ext_lt w x b
theorem ext_ltk_drew (w x : World) (b k : Nat) : (b < (ext w.drew x).heap.size + k) = (b < w.heap.size + k ∨ NewLt w x b k) := ext_ltk w x b k
theorem ext_lek0_drew (w x : World) (b : Nat) : (b ≤ (ext w.drew x).heap.size) = (b ≤ w.heap.size ∨ NewLe w x b 0) := ext_lek0 w x b
theorem ext_lek_drew (w x : World) (b k : Nat) : (b ≤ (ext w.drew x).heap.size + k) = (b ≤ w.heap.size + k ∨ NewLe w x b k) := ext_lek w x b k
theorem ext_lt_drewN (w x : World) (n b : Nat) : (b < (ext (w.drewN n) x).heap.size) = (b < w.heap.size ∨ NewLt w x b 0) := ext_lt w x b
theorem ext_ltk_drewN (w x : World) (n b k : Nat) : (b < (ext (w.drewN n) x).heap.size + k) = (b < w.heap.size + k ∨ NewLt w x b k) := ext_ltk w x b k
theorem ext_lek0_drewN (w x : World) (n b : Nat) : (b ≤ (ext (w.drewN n) x).heap.size) = (b ≤ w.heap.size ∨ NewLe w x b 0) := ext_lek0 w x b
theorem ext_lek_drewN (w x : World) (n b k : Nat) : (b ≤ (ext (w.drewN n) x).heap.size + k) = (b ≤ w.heap.size + k ∨ NewLe w x b k) := ext_lek w x b k
theorem ext_le (w x : World) : w.heap.size ≤ (ext w x).heap.size := (ext_below w x).size
theorem ext_self (w : World) : w = ext w { w with heap := #[] } := by cases w; simp [ext]
attribute [go_sem] ext_cell ext_frozen ext_lt ext_ltk ext_lek0 ext_lek ext_cell_drew ext_frozen_drew ext_lt_drew ext_ltk_drew ext_lek0_drew ext_lek_drew ext_cell_drewN ext_frozen_drewN ext_lt_drewN ext_ltk_drewN ext_lek0_drewN ext_lek_drewN

section
variable {a w : World}
theorem bExt (h : Below a.heap.size a w) (x : World) : Below a.heap.size a (ext w x) := h.trans ((ext_below w x).mono h.size)
theorem bAlloc (h : Below a.heap.size a w) (o : Obj) : Below a.heap.size a (w.alloc o) := h.alloc h.size o
theorem bDrew (h : Below a.heap.size a w) : Below a.heap.size a w.drew := h.drew
theorem bDrewN (h : Below a.heap.size a w) (n : Nat) : Below a.heap.size a (w.drewN n) := ⟨h.os, h.tape, h.output, h.size, h.block⟩
theorem bSet (h : Below a.heap.size a w) {p : Addr} (hp : a.heap.size ≤ p.block) (u : Value) : Below a.heap.size a (w.setCell p u) := h.setCell hp u
theorem bl {n : Nat} {R W : World} (h : Below n R W := by repeat first | exact .refl _ _ | assumption | refine bExt ?_ _ | refine bAlloc ?_ _ | refine bDrewN ?_ _ | refine bDrew ?_ | refine bSet ?_ (by first | exact Nat.le_refl _ | omega | (simp <;> omega)) _) : Below n R W := h
end

def Rd (s : Nat) (w : World) (A : Option Addr) (n : Nat) (xs : List Value) : Prop :=
 xs.length = n * s ∧ (0 < n → ∃ b off, A = some ⟨b, off, none⟩ ∧ b < w.heap.size ∧ ∀ j u, xs[j]? = some u → w.cell? ⟨b, off + j, none⟩ = some u)
def RdI (w : World) (A : Option Addr) (n : Nat) (l : List Int) : Prop := Rd 1 w A n (l.map (Value.int .i64))

section
variable {s n : Nat} {w w' : World} {A : Option Addr} {xs : List Value} {l : List Int}
theorem Rd.below (h : Rd s w A n xs) (hb : Below w.heap.size w w') : Rd s w' A n xs := by
 refine ⟨h.1, fun hn => ?_⟩
 obtain ⟨b, off, e, hlt, hc⟩ := h.2 hn
 exact ⟨b, off, e, Nat.lt_of_lt_of_le hlt hb.size, fun j u hu => (hb.cell (p := ⟨b, off + j, none⟩) hlt).trans (hc j u hu)⟩
theorem Rd.take_ (h : Rd s w A n xs) (k : Nat) (hk : k ≤ n) : Rd s w A k (xs.take (k * s)) := by
 refine ⟨?_, fun hn => ?_⟩
 ·
  rw [List.length_take, h.1]
  exact Nat.min_eq_left (Nat.mul_le_mul_right s hk)
 ·
  obtain ⟨b, off, e, hlt, hc⟩ := h.2 (by omega)
  refine ⟨b, off, e, hlt, fun j u hu => hc j u ?_⟩
  rw [List.getElem?_take] at hu
  split at hu
  ·
   exact hu
  ·
   cases hu
theorem RdI.below (h : RdI w A n l) (hb : Below w.heap.size w w') : RdI w' A n l := Rd.below h hb
theorem RdI.len (h : RdI w A n l) : l.length = n := by have := h.1; simpa using this
theorem RdI.open_ (h : RdI w A n l) (hn : 0 < n) : ∃ b off, A = some ⟨b, off, none⟩ ∧ b < w.heap.size ∧ ∀ j, j < n → w.cell? ⟨b, off + j, none⟩ = some (.int .i64 (l.getD j 0)) := by
 have hl := h.len
 obtain ⟨b, off, e, hlt, hc⟩ := h.2 hn
 refine ⟨b, off, e, hlt, fun j hj => hc j _ ?_⟩
 have hj' : j < l.length := by omega
 simp [List.getD, hj']
theorem RdI.take_ (h : RdI w A n l) (k : Nat) (hk : k ≤ n) : RdI w A k (l.take k) := by
 have := Rd.take_ h k hk
 unfold RdI
 rw [List.map_take]
 simpa using this
theorem RdI.nil_ : RdI w A 0 [] := ⟨by simp, fun h => absurd h (by omega)⟩
end
end Go.Proofs.YtmeaklaagglmeaaGreatDoor
