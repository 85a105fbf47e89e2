/- From a walk of a law to its row: the arguments read as before, since nothing that was there has been written. Conditions: none. -/
import Derived.Test.YtfmidngndddfiaaGreatDoorOwn
import Derived.ProofKit
import Derived.OpenShut
import Derived.ShutString
import Derived.ChangeOld
import Derived.Lib.SmallJoins
import Derived.Deep.Slices
import Derived.Deep.Fields
import Derived.ChangeSame
set_option linter.unusedVariables false
set_option linter.unusedSimpArgs false
set_option maxRecDepth 100000
namespace Go.Proofs.YtfmidngndddfiaaGreatDoor
open Go.ChangeShapes Go.WideShapes Go.ChangeAt Go.RowKit

theorem ownKnobNone : ownKnob Tryz.prog.godebug = none := by kernel_rfl
theorem laidOutAll : laidOutB Tryz.prog = true := by kernel_rfl

def tsOk (P : Program) (ts : List TypeId) : Prop := (ts.all fun t => P.readableRec t && decide (t < P.types.size)) = true
theorem trodAll_below {P : Program} (hl : laidOutB P = true) {H : Type} {enc : TypeId × Value → H} {W W' : World} (hb : Below W.heap.size W W') : ∀ (ts : List TypeId) (vs : List Value) (ds : List (DataW H)) (ps : List MemPlace), tsOk P ts →
    DataW.TrodAll enc P W 0 (fun _ => true) true ts vs ds ps → DataW.TrodAll enc P W' 0 (fun b => decide (b < W.heap.size)) true ts vs ds ps := by
  intro ts
  induction ts with
  | nil =>
    intro vs ds ps _ h
    cases vs <;> cases ds <;> first | exact h | exact h.elim
  | cons t ts ih =>
    intro vs ds ps hts h
    cases vs with
    | nil => exact h.elim
    | cons v vs =>
      cases ds with
      | nil => exact h.elim
      | cons d ds =>
        obtain ⟨p, q, h1, h2, e⟩ := h
        simp only [tsOk, List.all_cons, Bool.and_eq_true, decide_eq_true_eq] at hts
        have lt1 : ∀ x ∈ p, x.block < W.heap.size := by obtain ⟨m, hm⟩ := h1; exact DataW.trod_lt m _ _ _ hm
        exact ⟨p, q, Below.trod hl hts.1.1 hts.1.2 h1 hb lt1, ih _ _ _ hts.2 h2, e⟩

theorem wfI {x : Int} (h : (Lit.int .i64 x).wf = true) : -9223372036854775808 ≤ x ∧ x ≤ 9223372036854775807 := by
  have := bounds_i64 h; exact this

section
open Go.Deep
section
variable {H : Type} {enc : TypeId × Value → H} {P : Program} {w : World} {base : Nat} {spare : Nat → Bool} {held : Bool}
theorem open_slice_fields {t e : TypeId} {fs : Array Field} {fuel : Nat} {cs : List Value} {x : DataW H × List MemPlace} (ht : P.underlying t = some (.slice e)) (he : P.underlying e = some (.struct fs))
    (hone : oneCellFields P fs = true) (hC : P.cellsOf e = fs.size) (h : DataW.trod enc P w base spare held fuel t cs = some x) :
    (cs = [.slice none 0 0] ∧ x = (.nil, [])) ∨
    ∃ (a : Addr) (len cap m : Nat) (D : Nat → DataW H) (Pl : Nat → List MemPlace), cs = [.slice (some a) len cap] ∧ base ≤ a.block ∧ len ≤ cap ∧ cap ≤ maxLen ∧ m = (if spare a.block then cap else len) ∧
      x = (.slice ((List.range len).map D) ((List.range (m - len)).map fun j => D (len + j)), MemPlace.row a (m * fs.size) ++ (List.range m).flatMap Pl) ∧
      ∀ i, i < m → ∃ (ys : List (DataW H × List MemPlace)) (n : Nat), D i = .agg (ys.map (·.1)) ∧ Pl i = ys.flatMap (·.2) ∧ ys.length = fs.size ∧
        ∀ (j : Nat) (f : Field), fs[j]? = some f → ∃ (v : Value) (y : DataW H × List MemPlace), w.cell? (a.add (i * fs.size + j)) = some v ∧ ys[j]? = some y ∧ DataW.trod enc P w base spare held n f.type [v] = some y := by
  rcases open_slice ht h with h0 | ⟨a, len, cap, m, n, D, Pl, hcs, hb, hl, hm, hmm, hx, hi⟩
  · exact .inl h0
  · refine .inr ⟨a, len, cap, m, D, Pl, hcs, hb, hl, hm, hmm, by rw [hC] at hx; exact hx, fun i him => ?_⟩
    obtain ⟨cs', hc, ht'⟩ := hi i him
    rw [hC] at hc
    obtain ⟨ys, n', hn', hy, hlen, hyl, hf⟩ := DataW.trod_struct he ht'
    obtain ⟨_, hcl, hat⟩ := World.cells?_some hc
    simp only [Prod.mk.injEq] at hy
    refine ⟨ys, n', hy.1, hy.2, hyl, fun j f hj => ?_⟩
    obtain ⟨ho, hk⟩ := hone_of hone j f hj
    have hjl : j < fs.size := (Array.getElem?_eq_some_iff.1 hj).1
    have hcell := hat j hjl
    have hv : cs'[j]? = some (cs'[j]'(by omega)) := List.getElem?_eq_getElem (by omega)
    have h1 := hf j f hj
    rw [ho, hk] at h1
    have hone' : (cs'.drop j).take 1 = [cs'[j]'(by omega)] := by
      rw [List.drop_eq_getElem_cons (by omega)]
      rfl
    rw [hone'] at h1
    have hys : ys[j]? = some (ys[j]'(by omega)) := List.getElem?_eq_getElem (by omega)
    refine ⟨_, _, ?_, hys, h1.trans hys⟩
    rw [← Go.Deep.add_add, hcell, hv]
end

/-- A slice of structs whose m fields are all ints, that came in. -/
theorem open_rows {H : Type} {enc : TypeId × Value → H} {P : Program} {W : World} {r : Reach} {base : Nat} {v : Value} {d : DataW H} {p : List MemPlace} {t e i : TypeId} {fs : Array Field}
    (ht : P.underlying t = some (.slice e)) (he : P.underlying e = some (.struct fs)) (hi : P.underlying i = some (.int .i64)) (hone : oneCellFields P fs = true) (hC : P.cellsOf e = fs.size)
    (hfs : ∀ (j : Nat) (f : Field), fs[j]? = some f → f.type = i) (hpos : 0 < fs.size)
    (hv : Value.okWide P W r base t v) (h : DataW.Trod enc P W 0 (fun _ => true) true t v d p) :
    ∃ A n c, ∃ L : List (List Int), v = .slice A n c ∧ n ≤ c ∧ c ≤ maxLen ∧ L.length = n ∧ (∀ row ∈ L, row.length = fs.size ∧ ∀ x ∈ row, -9223372036854775808 ≤ x ∧ x ≤ 9223372036854775807) ∧
      (0 < n → ∃ b off, A = some ⟨b, off, none⟩ ∧ b < W.heap.size ∧ ∀ k j, k < n → j < fs.size → W.cell? ⟨b, off + (k * fs.size + j), none⟩ = some (.int .i64 ((L[k]?.getD [])[j]?.getD 0))) := by
  obtain ⟨a0, len, cap, rfl⟩ := okWide_slice ht hv
  obtain ⟨fuel, hf⟩ := h
  rcases open_slice_fields ht he hone hC hf with ⟨hcs, _⟩ | ⟨a, l, c, m, D, Pl, hcs, _, hl, hm, hmm, _, hD⟩
  · simp [Value.cells] at hcs
    obtain ⟨rfl, rfl, rfl⟩ := hcs
    exact ⟨none, 0, 0, [], rfl, Nat.le_refl _, by simp [maxLen], rfl, by simp, fun h => absurd h (by omega)⟩
  · simp [Value.cells] at hcs
    obtain ⟨rfl, rfl, rfl⟩ := hcs
    simp at hmm
    subst hmm
    have hcell : ∀ k j, k < m → j < fs.size → ∃ x : Int, W.cell? (a.add (k * fs.size + j)) = some (.int .i64 x) ∧ (Lit.int .i64 x).wf = true := by
      intro k j hk hj
      obtain ⟨ys, n', _, _, _, hff⟩ := hD k hk
      obtain ⟨u, y, hu, _, htr⟩ := hff j fs[j] (by simp [hj])
      rw [hfs j fs[j] (by simp [hj])] at htr
      obtain ⟨x, e1, _, w1⟩ := DataW.trod_int hi htr
      simp at e1
      subst e1
      exact ⟨x, hu, w1⟩
    have hrow : ∀ k, k < m → ∃ row : List Int, row.length = fs.size ∧ (∀ j, j < fs.size → W.cell? (a.add (k * fs.size + j)) = some (.int .i64 (row[j]?.getD 0))) ∧ ∀ x ∈ row, -9223372036854775808 ≤ x ∧ x ≤ 9223372036854775807 := by
      intro k hk
      have hx : ∀ j, ∃ x : Int, j < fs.size → (W.cell? (a.add (k * fs.size + j)) = some (.int .i64 x) ∧ (Lit.int .i64 x).wf = true) := fun j => by
        by_cases hj : j < fs.size
        · obtain ⟨x, hx⟩ := hcell k j hk hj; exact ⟨x, fun _ => hx⟩
        · exact ⟨0, fun h => absurd h hj⟩
      have hx' := Classical.axiomOfChoice hx
      obtain ⟨f, hf⟩ := hx'
      refine ⟨(List.range fs.size).map f, by simp, fun j hj => ?_, fun x hxm => ?_⟩
      · rw [(hf j hj).1]; simp [hj]
      · simp only [List.mem_map, List.mem_range] at hxm
        obtain ⟨j, hj, rfl⟩ := hxm
        exact wfI (hf j hj).2
    have hrow' : ∀ k, ∃ row : List Int, k < m → (row.length = fs.size ∧ (∀ j, j < fs.size → W.cell? (a.add (k * fs.size + j)) = some (.int .i64 (row[j]?.getD 0))) ∧ ∀ x ∈ row, -9223372036854775808 ≤ x ∧ x ≤ 9223372036854775807) := fun k => by
      by_cases hk : k < m
      · obtain ⟨row, hr⟩ := hrow k hk; exact ⟨row, fun _ => hr⟩
      · exact ⟨[], fun h => absurd h hk⟩
    obtain ⟨R, hR⟩ := Classical.axiomOfChoice hrow'
    refine ⟨some a, len, m, (List.range len).map R, rfl, hl, hm, by simp, fun row hr => ?_, fun hn => ?_⟩
    · simp only [List.mem_map, List.mem_range] at hr
      obtain ⟨k, hk, rfl⟩ := hr
      exact ⟨(hR k (by omega)).1, (hR k (by omega)).2.2⟩
    · obtain ⟨b, off, spot⟩ := a
      have hc := (hR 0 (by omega)).2.1 0 hpos
      have hspot : spot = none := by simpa [Addr.add] using World.cell?_spot hc
      subst hspot
      have hb : b < W.heap.size := World.block_lt_of_cell? W _ (by simpa [Addr.add] using hc)
      refine ⟨b, off, rfl, hb, fun k j hk hj => ?_⟩
      have h2 := (hR k (by omega)).2.1 j hj
      have hadd : (⟨b, off, none⟩ : Addr).add (k * fs.size + j) = ⟨b, off + (k * fs.size + j), none⟩ := by unfold Addr.add; split <;> simp_all
      rw [hadd] at h2
      rw [h2]
      simp [hk]
end
set_option maxRecDepth 100000 in
/-- A slice of ints that came in. -/
theorem open_RdI {H : Type} {enc : TypeId × Value → H} {W : World} {r : Reach} {base : Nat} {v : Value} {d : DataW H} {p : List MemPlace}
    (hv : Value.okWide Tryz.prog W r base 23 v) (h : DataW.Trod enc Tryz.prog W 0 (fun _ => true) true 23 v d p) :
    ∃ A n c l, v = .slice A n c ∧ RdI W A n l ∧ n ≤ c ∧ c ≤ maxLen ∧ ∀ x ∈ l, -9223372036854775808 ≤ x ∧ x ≤ 9223372036854775807 := by
  obtain ⟨a0, len, cap, rfl⟩ := okWide_slice Tryz.underlying23 hv
  obtain ⟨fuel, hf⟩ := h
  rcases open_ints Tryz.underlying23 Tryz.underlying3 (by kernel_rfl) hf with ⟨hcs, _⟩ | ⟨x, l, c, zs, hcs, _, hl, hm, hz, _, hcell, hwz⟩
  · simp [Value.cells] at hcs
    obtain ⟨rfl, rfl, rfl⟩ := hcs
    exact ⟨none, 0, 0, [], rfl, RdI.nil_, Nat.le_refl _, by simp [maxLen], by simp⟩
  · simp [Value.cells] at hcs
    obtain ⟨rfl, rfl, rfl⟩ := hcs
    refine ⟨some x, len, cap, zs.take len, rfl, ⟨?_, fun hn => ?_⟩, hl, hm, fun y hy => wfI (hwz y (List.mem_of_mem_take hy))⟩
    · simp; simp at hz; omega
    · obtain ⟨b, off, spot⟩ := x
      have hzl : zs.length = cap := by simpa using hz
      have hc := hcell 0 (by omega)
      have hspot : spot = none := by simpa [Addr.add] using World.cell?_spot hc
      subst hspot
      have hb : b < W.heap.size := World.block_lt_of_cell? W _ (by simpa [Addr.add] using hc)
      refine ⟨b, off, rfl, hb, fun j u hu => ?_⟩
      simp only [List.getElem?_map, Option.map_eq_some_iff] at hu
      obtain ⟨y, hy, rfl⟩ := hu
      have hj : j < zs.length := by
        have := (List.getElem?_eq_some_iff.1 hy).1
        simp at this; omega
      have h2 := hcell j hj
      have hadd : (⟨b, off, none⟩ : Addr).add j = ⟨b, off + j, none⟩ := by unfold Addr.add; split <;> simp_all
      rw [hadd] at h2
      rw [h2]
      have : zs.getD j 0 = y := by
        rw [List.getElem?_take] at hy
        split at hy
        · simp [List.getD, hy]
        · cases hy
      rw [this]
end Go.Proofs.YtfmidngndddfiaaGreatDoor
