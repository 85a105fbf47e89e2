/- Slices of strings: how they read, and the contracts of the functions that copy, compare and mark them. Conditions: lengths below 2^40. -/
import Derived.Test.YtmeaklaagglmeaaGreatDoorYL1
import Derived.Test.YtmeaklaagglmeaaGreatDoorYLawKit
import Derived.Deep.RegionHeld3
set_option linter.unusedVariables false
set_option linter.unusedSimpArgs false
set_option maxRecDepth 100000
namespace Go.Proofs.YtmeaklaagglmeaaGreatDoor
open Go.RowKit
theorem ret_str {a b : ByteArray} (h : a = b) : Ending.returned (.string a) = .returned (.string b) := by rw [h]
def RdT (w : World) (A : Option Addr) (n : Nat) (l : List ByteArray) : Prop := Rd 1 w A n (l.map Value.string)
def OwT (base : Nat) (w : World) (A : Option Addr) (n c : Nat) (l : List ByteArray) : Prop := Ow 9 1 base w A n c (l.map Value.string)
theorem string_info : (Tryz.prog.info? 9).map (fun i => (i.zero, i.size, i.bytes)) = some (some (.string ByteArray.empty), 1, 16) := by kernel_rfl
section
variable {base base' n c : Nat} {w w' : World} {A : Option Addr} {l : List ByteArray}
theorem RdT.below (h : RdT w A n l) (hb : Below w.heap.size w w') : RdT w' A n l := Rd.below h hb
theorem RdT.len (h : RdT w A n l) : l.length = n := by have := h.1; simpa using this
theorem RdT.open_ (h : RdT w A n l) (hn : 0 < n) : ∃ b off, A = some ⟨b, off, none⟩ ∧ b < w.heap.size ∧ ∀ j, j < n → w.cell? ⟨b, off + j, none⟩ = some (.string (l[j]?.getD ByteArray.empty)) := by
 have hl := h.len
 obtain ⟨b, off, e, hlt, hc⟩ := h.2 hn
 refine ⟨b, off, e, hlt, fun j hj => hc j _ ?_⟩
 have hj' : j < l.length := by omega
 simp [hj']
theorem OwT.len (h : OwT base w A n c l) : l.length = n := by have := Ow.len h; simpa using this
theorem OwT.below (h : OwT base w A n c l) (hb : Below w.heap.size w w') : OwT base w' A n c l := Ow.below h hb
theorem OwT.kept {row : Option Nat} (h : OwT base w A n c l) (hg : w.grownBy w' row) (hne : blkOf A = none ∨ blkOf A ≠ row) : OwT base w' A n c l := Ow.kept h hg hne
theorem OwT.mono (h : OwT base w A n c l) (hb : base' ≤ base) : OwT base' w A n c l := Ow.mono h hb
theorem OwT.nil_ : OwT base w none 0 0 [] := Ow.nil_
theorem OwT.rd (h : OwT base w A n c l) : RdT w A n l := Ow.rd h
theorem OwT.cap_ (h : OwT base w A n c l) : n ≤ c ∧ c ≤ maxLen := Ow.cap_ h
theorem OwT.blk (h : OwT base w A n c l) {g : Nat} (hA : blkOf A = some g) : base ≤ g ∧ g < w.heap.size := Ow.blk h hA
theorem OwT.form_ (h : OwT base w A n c l) (hn : 0 < n) : ∃ g, A = some ⟨g, 0, none⟩ ∧ base ≤ g ∧ g < w.heap.size := Ow.form_ h hn
theorem OwT.cell_ {g : Nat} (h : OwT base w (some ⟨g, 0, none⟩) n c l) (j : Nat) (hj : j < n) : w.cell? ⟨g, j, none⟩ = some (.string (l[j]?.getD ByteArray.empty)) := by
 have hl := h.len
 rw [Ow.cell_ h j (by omega)]
 simp [show j < l.length by omega]
theorem OwT.frozen_ {g : Nat} (h : OwT base w (some ⟨g, 0, none⟩) n c l) (j : Nat) : w.frozen? ⟨g, j, none⟩ = false := Ow.frozen_ h j
theorem OwT.stored_ {g : Nat} (h : OwT base w (some ⟨g, 0, none⟩) n c l) (j : Nat) (u : ByteArray) :
  OwT base (w.setCell ⟨g, j, none⟩ (.string u)) (some ⟨g, 0, none⟩) n c (l.set j u) ∧ w.grownBy (w.setCell ⟨g, j, none⟩ (.string u)) (some g) := by
 have := Ow.stored_ h j (.string u)
 refine ⟨?_, this.2⟩
 unfold OwT
 rw [List.map_set]
 exact this.1
theorem OwT.lit_ {R w : World} (hR : Below R.heap.size R w) (l : List ByteArray) (hl : l.length ≤ maxLen) (cs : Array Value) (hcs : cs.toList = l.map Value.string) :
  OwT R.heap.size (w.alloc (.cells cs 9)) (some ⟨w.heap.size, 0, none⟩) l.length l.length l := by
 have hs : cs.size = l.length * 1 := by rw [← Array.length_toList, hcs]; simp
 have := World.ownsRow_lit (base := R.heap.size) (e := 9) (size := 1) w cs l.length hR.size hl hs
 rw [hcs] at this
 exact this
end
def RetT (w : World) (l : List ByteArray) (e : Ending) (w' : World) : Prop := ∃ A n c x, e = .returned (.slice A n c) ∧ w' = ext w x ∧ OwT w.heap.size (ext w x) A n c l
theorem RetT.mk_ {w W : World} {base : Nat} {A : Option Addr} {n c : Nat} {l : List ByteArray} (ho : OwT base W A n c l) (hbase : w.heap.size ≤ base) (hb : Below w.heap.size w W) : RetT w l (.returned (.slice A n c)) W := by
 obtain ⟨x, rfl⟩ := ext_ex hb
 exact ⟨A, n, c, x, rfl, rfl, ho.mono hbase⟩
def oneB (n : Int) : ByteArray := ByteArray.empty.push (UInt8.ofNat n.toNat)
theorem run_conv_one (W : World) (n : Int) (g : Nat) (h : g = W.heap.size) : (convert 46 9 (.slice (some ⟨g, 0, none⟩) 1 1)).run Tryz.prog (W.alloc (.cells #[.int .u8 n] 5)) = .ok (.string (oneB n)) (W.alloc (.cells #[.int .u8 n] 5)) := by
 subst h
 have hl := run_loadCells_list (P := Tryz.prog) (W.alloc (.cells #[.int .u8 n] 5)) ⟨W.heap.size, 0, none⟩ [Value.int .u8 n] (fun j v hj => by
  match j with
  | 0 => simp at hj; subst hj; simp [Addr.add, go_sem]
  | j + 1 => simp at hj)
 rw [run_convert_bytes_string _ _ _ _ _ _ _ Tryz.underlying46 Tryz.underlying5 Tryz.underlying9, run_bytesToString _ _ 1 1 [n] hl]
 rfl
attribute [go_sem] run_conv_one
end Go.Proofs.YtmeaklaagglmeaaGreatDoor
