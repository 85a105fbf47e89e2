/- The table of the signs of marks that a row lists, and a start that meets all four tables. Conditions: none. -/
import Derived.Test.YtfmidngndddfiaaGreatDoorDoorK
import Derived.Test.YtfmidngndddfiaaGreatDoorTextJ
import Derived.ChangeVars
set_option linter.unusedVariables false
set_option linter.unusedSimpArgs false
set_option maxRecDepth 100000
namespace Go.Proofs.YtfmidngndddfiaaGreatDoor
open Go.RowKit Go.ChangeShapes
section
variable {H : Type} {enc : TypeId × Value → H} {P : Program} {w : World} {base : Nat} {sp : Nat → Bool} {held : Bool}
/-- An array of strings, opened. -/
theorem trod_strs {fuel : Nat} {t e : TypeId} {n : Nat} {cs : List Value} {x : DataW H × List MemPlace}
    (ht : P.underlying t = some (.array n e)) (he : P.underlying e = some .string) (hce : P.cellsOf e = 1) (hct : P.cellsOf t = n)
    (h : DataW.trod enc P w base sp held fuel t cs = some x) : ∃ zs : List ByteArray, cs = zs.map Value.string ∧ x = (.agg (zs.map fun z => .lit (.string z.data.toList)), []) ∧ zs.length = n ∧ ∀ z ∈ zs, z.size ≤ maxLen := by
  cases fuel with
  | zero => simp [DataW.trod] at h
  | succ fuel =>
    simp only [DataW.trod, ht, hce, hct, Nat.mul_one] at h
    split at h
    · rename_i hl
      obtain ⟨xs, hm, hx⟩ := Option.map_eq_some_iff.1 h
      have hxl : xs.length = n := by simpa using Lib.mapM_length hm
      have hi : ∀ i, i < n → ∃ s : ByteArray, cs[i]? = some (.string s) ∧ xs[i]? = some (.lit (.string s.data.toList), []) ∧ s.size ≤ maxLen := fun i hi => by
        obtain ⟨b, hb, hf⟩ := Lib.mapM_at hm i i (by simp [hi])
        obtain ⟨s, hc, rfl, hs⟩ := DataW.trod_string he hf
        refine ⟨s, ?_, hb, hs⟩
        have := congrArg (·[0]?) hc
        simpa [List.getElem?_take, List.getElem?_drop] using this
      obtain ⟨f, hf⟩ : ∃ f : Nat → ByteArray, ∀ i, i < n → cs[i]? = some (.string (f i)) ∧ xs[i]? = some (.lit (.string (f i).data.toList), []) ∧ (f i).size ≤ maxLen := by
        have h' : ∀ i, ∃ s : ByteArray, i < n → (cs[i]? = some (.string s) ∧ xs[i]? = some (.lit (.string s.data.toList), []) ∧ s.size ≤ maxLen) := fun i => by
          by_cases hn : i < n
          · obtain ⟨s, hs⟩ := hi i hn; exact ⟨s, fun _ => hs⟩
          · exact ⟨ByteArray.empty, fun hh => absurd hh hn⟩
        exact Classical.axiomOfChoice h'
      have hcs : cs = ((List.range n).map f).map Value.string := by
        apply List.ext_getElem?
        intro i
        by_cases hn : i < n
        · rw [(hf i hn).1]; simp [hn]
        · rw [List.getElem?_eq_none (by omega), List.getElem?_eq_none (by simp; omega)]
      have hxs : xs = ((List.range n).map f).map fun z => ((.lit (.string z.data.toList), []) : DataW H × List MemPlace) := by
        apply List.ext_getElem?
        intro i
        by_cases hn : i < n
        · rw [(hf i hn).2.1]; simp [hn]
        · rw [List.getElem?_eq_none (by omega), List.getElem?_eq_none (by simp; omega)]
      refine ⟨(List.range n).map f, hcs, ?_, by simp, fun z hz => ?_⟩
      · rw [← hx, hxs]
        simp [List.map_map, List.flatMap]
      · obtain ⟨i, hi', rfl⟩ := List.mem_map.1 hz
        exact (hf i (by simpa using hi')).2.2
    · cases h
theorem mapM_some {α β : Type} {f : α → Option β} {g : α → β} : ∀ l : List α, (∀ x ∈ l, f x = some (g x)) → l.mapM f = some (l.map g)
  | [], _ => rfl
  | x :: l, h => by
    rw [List.mapM_cons, h x (by simp), mapM_some l (fun y hy => h y (by simp [hy]))]
    rfl
/-- An array of strings reads in every world. -/
theorem trod_strs_mk {t e : TypeId} {n : Nat} (ht : P.underlying t = some (.array n e)) (he : P.underlying e = some .string) (hce : P.cellsOf e = 1) (hct : P.cellsOf t = n)
    (zs : List ByteArray) (hl : zs.length = n) (hz : ∀ z ∈ zs, z.size ≤ maxLen) : DataW.trod enc P w base sp held 2 t (zs.map Value.string) = some (.agg (zs.map fun z => .lit (.string z.data.toList)), []) := by
  have hm : ((List.range n).mapM fun i => DataW.trod enc P w base sp held 1 e (((zs.map Value.string).drop i).take 1)) = some ((List.range n).map fun i => ((.lit (.string (zs[i]?.getD ByteArray.empty).data.toList), []) : DataW H × List MemPlace)) := by
    refine mapM_some _ fun i hi => ?_
    simp only [List.mem_range] at hi
    have e1 : ((zs.map Value.string).drop i).take 1 = [.string (zs[i]?.getD ByteArray.empty)] := by
      rw [List.drop_eq_getElem_cons (by simp; omega)]
      have : zs[i]? = some zs[i] := List.getElem?_eq_getElem (by omega)
      simp [this]
    have e2 : (zs[i]?.getD ByteArray.empty).size ≤ maxLen := hz _ (by
      have : zs[i]? = some zs[i] := List.getElem?_eq_getElem (by omega)
      rw [this]; exact List.getElem_mem _)
    rw [e1]
    simp only [DataW.trod, he, if_pos e2]
  have hr : (List.range n).map (fun i => zs[i]?.getD ByteArray.empty) = zs := by
    apply List.ext_getElem (by simp [hl])
    intro i h1 h2
    have : zs[i]? = some zs[i] := List.getElem?_eq_getElem h2
    simp [this]
  have hd : (List.range n).map (fun i => ((.lit (.string (zs[i]?.getD ByteArray.empty).data.toList), []) : DataW H × List MemPlace)) = zs.map fun z => ((.lit (.string z.data.toList), []) : DataW H × List MemPlace) := by
    conv => rhs; rw [← hr]
    rw [List.map_map]; rfl
  rw [hd] at hm
  unfold DataW.trod
  simp only [ht, hce, hct, Nat.mul_one, List.length_map, hl, if_true]
  rw [hm]
  simp [List.map_map, List.flatMap]
end
def laid4 : List (String × DataW Unit) := laid3 ++ [("loop.example/g00912/impl.markSigns", Rows.laid_loop_example_g00912_impl_markSigns)]
theorem gSgn : Tryz.prog.globalNamed "loop.example/g00912/impl.markSigns" = some 0 := by kernel_rfl
theorem gSgnType : (Tryz.prog.globals[0]?).map (·.type) = some 124 := by kernel_rfl
theorem cellsSgn : Tryz.prog.cellsOf 124 = 4 := by kernel_rfl
theorem cellsStr : Tryz.prog.cellsOf 9 = 1 := by kernel_rfl
theorem bytes_of_list {s : ByteArray} {l : List UInt8} (h : s.data.toList = l) : s = ⟨l.toArray⟩ := by
  cases s with
  | mk d => simp only at h; rw [← h]
theorem sgn_of_var {W : World} {cs : Array Value} (h : W.var? Tryz.prog "loop.example/g00912/impl.markSigns" = some cs) (hc : cs.toList = signsL.map Value.string) : Sgn W := by
  have hcell : ∀ j : Nat, j < 4 → W.cell? ⟨0, j, none⟩ = some (.string (signsL[j]?.getD ByteArray.empty)) := fun j hj => by
    have h1 := World.var?_cell gSgn h j
    rw [h1, ← Array.getElem?_toList, hc]
    rcases (by omega : j = 0 ∨ j = 1 ∨ j = 2 ∨ j = 3) with rfl | rfl | rfl | rfl <;> rfl
  exact ⟨World.block_lt_of_cell? W _ (hcell 0 (by omega)), hcell⟩
theorem sgn_of_laid {W : World} (h : laidMetH Tryz.prog laid4 W) : Sgn W := by
  have h4 : laidMet Tryz.prog [("loop.example/g00912/impl.markSigns", Rows.laid_loop_example_g00912_impl_markSigns)] W := laidVars_tail (laidVars_tail (laidVars_tail (show laidMet Tryz.prog laid4 W from h)))
  obtain ⟨ps, ⟨g', t', cs, fuel, p, q, hg', ht', hvar, hd, _, _⟩, _⟩ := h4
  obtain rfl := Option.some.inj (gSgn.symm.trans hg')
  obtain rfl := Option.some.inj (gSgnType.symm.trans ht')
  obtain ⟨zs, hcs, hx, _, _⟩ := trod_strs Tryz.underlying124 Tryz.underlying9 cellsStr cellsSgn hd
  refine sgn_of_var hvar ?_
  rw [hcs]
  have hz : zs.map (fun z => (DataW.lit (.string z.data.toList) : DataW Unit)) = [.lit (.string []), .lit (.string [60]), .lit (.string [101]), .lit (.string [42])] := by
    have := congrArg Prod.fst hx
    simp only [Rows.laid_loop_example_g00912_impl_markSigns, DataW.agg.injEq] at this
    exact this.symm
  match zs, hz with
  | [a, b, c, d], hz =>
    simp only [List.map_cons, List.map_nil, List.cons.injEq, DataW.lit.injEq, Lit.string.injEq, and_true] at hz
    obtain ⟨h0, h1, h2, h3⟩ := hz
    rw [bytes_of_list h0, bytes_of_list h1, bytes_of_list h2, bytes_of_list h3]
    rfl
theorem tab_of_laid4 {W : World} (h : laidMetH Tryz.prog laid4 W) : Tab W :=
  Lib.tabIs_of_head (rest := [("loop.example/g00912/impl.markSigns", Rows.laid_loop_example_g00912_impl_markSigns)]) gPow gPowType Tryz.underlying163 Tryz.underlying153 cellsU64 cellsPow (laidVars_tail (laidVars_tail (show laidMet Tryz.prog laid4 W from h)))
/-- The variable that holds the signs reads behind a call as it did before it. -/
theorem sgnVars {H : Type} {enc : TypeId × Value → H} {W W' : World} {gs : List (DataW H)} {ps : List MemPlace} {sp : Nat → Bool} (h : DataW.TrodVars enc Tryz.prog W (fun _ => true) ["loop.example/g00912/impl.markSigns"] gs ps) (hs : Sgn W) (hb : Below W.heap.size W W') :
    ∃ d qs, gs = [d] ∧ DataW.TrodVars enc Tryz.prog W' sp ["loop.example/g00912/impl.markSigns"] [d] qs := by
  obtain ⟨g, t, cs, fuel, d, p, rfl, h1, h2, h3, h4, _⟩ := trodVars_one h
  obtain rfl := Option.some.inj (gSgn.symm.trans h1)
  obtain rfl := Option.some.inj (gSgnType.symm.trans h2)
  obtain ⟨zs, hcs, hx, hl, hz⟩ := trod_strs Tryz.underlying124 Tryz.underlying9 cellsStr cellsSgn h4
  have hv : W'.var? Tryz.prog "loop.example/g00912/impl.markSigns" = some cs := by
    rw [← h3]
    simp only [World.var?, gSgn, Option.bind_some, Option.bind_eq_bind, hb.block 0 hs.1]
  have hd := trod_strs_mk (enc := enc) (w := W') (base := 0) (sp := sp) (held := true) Tryz.underlying124 Tryz.underlying9 cellsStr cellsSgn zs hl hz
  have e : d = .agg (zs.map fun z => .lit (.string z.data.toList)) := congrArg Prod.fst hx
  rw [← hcs, ← e] at hd
  exact ⟨d, _, rfl, trodVars_mk1 gSgn gSgnType hv hd⟩
def cellsS : Array Value := #[.string ⟨#[]⟩, .string ⟨#[60]⟩, .string ⟨#[101]⟩, .string ⟨#[42]⟩]
/-- A start for the witness: the four tables laid. -/
noncomputable def laidWorld4 (os : Os) : World :=
  { laidWorld os with heap := (laidWorld os).heap.modify 0 (fun | .cells _ t frozen => .cells cellsS t frozen | o => o) }
end Go.Proofs.YtfmidngndddfiaaGreatDoor
