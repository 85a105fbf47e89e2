/- The tables that the rows of a door seat list, and a start that meets them. Conditions: none. -/
import Derived.Test.YtfmidngndddfiaaGreatDoorLib
import Derived.Test.YtfmidngndddfiaaGreatDoorShelf
import Derived.Lib.LaidTab
import Derived.Deep.DeepHandedRow
set_option linter.unusedVariables false
set_option linter.unusedSimpArgs false
set_option maxRecDepth 100000
namespace Go.Proofs.YtfmidngndddfiaaGreatDoor
open Go.RowKit
/-- The table that strconv.Itoa reads lies as its initialiser lays it. -/
def Tab (w : World) : Prop := Lib.TabIs Tryz.prog w "internal/strconv.uint64pow10" .u64 Lib.pow10Tab
def laid3 : List (String × DataW Unit) := [("math/bits.deBruijn32tab", Rows.laid_math_bits_deBruijn32tab), ("math/bits.deBruijn64tab", Rows.laid_math_bits_deBruijn64tab), ("internal/strconv.uint64pow10", Rows.laid_internal_strconv_uint64pow10)]
theorem gPow : Tryz.prog.globalNamed "internal/strconv.uint64pow10" = some 1 := by kernel_rfl
theorem gPowType : (Tryz.prog.globals[1]?).map (·.type) = some 163 := by kernel_rfl
theorem cellsPow : Tryz.prog.cellsOf 163 = 20 := by kernel_rfl
theorem cellsU64 : Tryz.prog.cellsOf 153 = 1 := by kernel_rfl
theorem laidVars_tail {P : Program} {W : World} {x : String × DataW Unit} {r : List (String × DataW Unit)} (h : laidMet P (x :: r) W) : laidMet P r W := by
  obtain ⟨ps, hv, hn, hc⟩ := h
  obtain ⟨g, t, cs, fuel, p, q, h1, h2, h3, h4, h5, rfl⟩ := hv
  exact ⟨q, h5, (List.nodup_append.1 hn).2.1, fun b off hb => hc b off (List.mem_append_right _ hb)⟩
theorem tab_of_laid {W : World} (h : laidMetH Tryz.prog laid3 W) : Tab W :=
  Lib.tabIs_of_head (rest := []) gPow gPowType Tryz.underlying163 Tryz.underlying153 cellsU64 cellsPow (laidVars_tail (laidVars_tail (show laidMet Tryz.prog laid3 W from h)))
theorem Tab.below {w w' : World} (h : Tab w) (hb : Below w.heap.size w w') : Tab w' := by
  have hlt : 1 < w.heap.size := by
    have h1 := h.cell gPow 0 (by decide)
    exact World.block_lt_of_cell? w _ h1
  unfold Tab Lib.TabIs at *
  rw [← h]
  simp only [World.var?, gPow, Option.bind_some, Option.bind_eq_bind, hb.block 1 hlt]
def cells32 : Array Value := #[0, 1, 28, 2, 29, 14, 24, 3, 30, 22, 20, 15, 25, 17, 4, 8, 31, 27, 13, 23, 21, 19, 16, 7, 26, 12, 18, 6, 11, 5, 10, 9].map (Value.int .u8)
def cells64 : Array Value := #[0, 1, 56, 2, 57, 49, 28, 3, 61, 58, 42, 50, 38, 29, 17, 4, 62, 47, 59, 36, 45, 43, 51, 22, 53, 39, 33, 30, 24, 18, 12, 5, 63, 55, 48, 27, 60, 41, 37, 16, 46, 35, 44, 21, 52, 32, 23, 11, 54, 26, 40, 15, 34, 20, 31, 10, 25, 14, 19, 9, 13, 8, 7, 6].map (Value.int .u8)
def cells20 : Array Value := (Lib.pow10Tab.map (Value.int .u64)).toArray
/-- A start for the witness: the settled world, the three tables laid. -/
noncomputable def laidWorld (os : Os) : World :=
  { World.holding Tryz.prog os ⟨#[], #[], []⟩ with heap := (((World.holding Tryz.prog os ⟨#[], #[], []⟩).heap.modify 1 (fun | .cells _ t frozen => .cells cells20 t frozen | o => o)).modify 3 (fun | .cells _ t frozen => .cells cells32 t frozen | o => o)).modify 4 (fun | .cells _ t frozen => .cells cells64 t frozen | o => o) }
theorem own : ownKnob Tryz.prog.godebug = none := by kernel_rfl
end Go.Proofs.YtfmidngndddfiaaGreatDoor
