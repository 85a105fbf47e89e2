/- Which scores are known at a time, in the program and in the reference; rows of bools. Conditions: slices below 2^40 elements. -/
import Derived.Test.YtpjaiihkgeabiaaDoorScreen
import Derived.Test.YtpjaiihkgeabiaaDoorSorts
set_option linter.unusedVariables false
set_option linter.unusedSimpArgs false
set_option maxRecDepth 100000
namespace Go.Proofs.YtpjaiihkgeabiaaDoor
open Go.RowKit
theorem bool_info : (Tryd.prog.info? 4).map (fun i => (i.zero, i.size, i.bytes)) = some (some (.bool false), 1, 1) := by kernel_rfl
def RdB (w : World) (A : Option Addr) (n : Nat) (l : List Bool) : Prop := Rd 1 w A n (l.map Value.bool)
def OwB (base : Nat) (w : World) (A : Option Addr) (n c : Nat) (l : List Bool) : Prop := Ow 4 1 base w A n c (l.map Value.bool)
section
variable {base n c : Nat} {w w' : World} {A : Option Addr} {l : List Bool}
theorem RdB.below (h : RdB w A n l) (hb : Below w.heap.size w w') : RdB w' A n l := Rd.below h hb
theorem RdB.len (h : RdB w A n l) : l.length = n := by have := h.1; simpa using this
theorem RdB.open_ (h : RdB w A n l) (hn : 0 < n) : ∃ b off, A = some ⟨b, off, none⟩ ∧ b < w.heap.size ∧ ∀ j, j < n → w.cell? ⟨b, off + j, none⟩ = some (.bool (l[j]?.getD false)) := by
  have hl := h.len
  obtain ⟨b, off, e, hlt, hc⟩ := h.2 hn
  refine ⟨b, off, e, hlt, fun j hj => hc j _ ?_⟩
  simp [show j < l.length by omega]
theorem OwB.below (h : OwB base w A n c l) (hb : Below w.heap.size w w') : OwB base w' A n c l := Ow.below h hb
theorem OwB.rd (h : OwB base w A n c l) : RdB w A n l := Ow.rd h
theorem OwB.len (h : OwB base w A n c l) : l.length = n := by have := Ow.len h; simpa using this
theorem OwB.nil_ : OwB base w none 0 0 [] := Ow.nil_
theorem OwB.blk (h : OwB base w A n c l) {g : Nat} (hA : blkOf A = some g) : base ≤ g ∧ g < w.heap.size := Ow.blk h hA
theorem OwB.mono {base' : Nat} (h : OwB base w A n c l) (hb : base' ≤ base) : OwB base' w A n c l := Ow.mono h hb
theorem RdB.one_ {b : Nat} {x : Bool} (hb : b < w.heap.size) (h : w.cell? ⟨b, 0, none⟩ = some (.bool x)) : RdB w (some ⟨b, 0, none⟩) 1 [x] :=
  ⟨by simp, fun _ => ⟨b, 0, rfl, hb, fun j u hu => by
    match j with
    | 0 => simp at hu; subst hu; exact h
    | j + 1 => simp at hu⟩⟩
end
/-- Whether the score of slot j is known at t. -/
def knAt (l : List (Int × Int)) (S : List Int) (gap t : Int) (j : Nat) : Bool := decide (S[j]?.getD 0 + (l[j]?.getD (0, 0)).2 + gap ≤ t)
def knL (l : List (Int × Int)) (S : List Int) (gap t : Int) (k : Nat) : List Bool := (List.range k).map (knAt l S gap t)
theorem knL_succ (l : List (Int × Int)) (S : List Int) (gap t : Int) (k : Nat) : knL l S gap t (k + 1) = knL l S gap t k ++ [knAt l S gap t k] := by simp [knL, List.range_succ]
theorem knL_get (l : List (Int × Int)) (S : List Int) (gap t : Int) (n k : Nat) (h : k < n) : (knL l S gap t n)[k]?.getD false = knAt l S gap t k := by simp [knL, h]
def pickI (p : Nat → Bool) (n : Nat) : List Int := ((List.range n).filter p).map Int.ofNat
theorem pickI_yes {p : Nat → Bool} {k : Nat} (h : p k = true) : pickI p (k + 1) = pickI p k ++ [(k : Int)] := by simp [pickI, List.range_succ, h]
theorem pickI_no {p : Nat → Bool} {k : Nat} (h : p k = false) : pickI p (k + 1) = pickI p k := by simp [pickI, List.range_succ, h]
theorem pickI_len (p : Nat → Bool) (n : Nat) : (pickI p n).length ≤ n := by
  unfold pickI; rw [List.length_map]; exact Nat.le_trans (List.length_filter_le _ _) (by simp)
theorem pickI_has {p : Nat → Bool} {n k : Nat} (h : k < n) : hasB (pickI p n) k = p k := by
  rw [Bool.eq_iff_iff, hasB_iff]
  simp only [pickI, List.mem_map, List.mem_filter, List.mem_range]
  constructor
  · rintro ⟨j, ⟨_, h2⟩, e⟩
    have : j = k := by simp at e; omega
    subst this; exact h2
  · intro h2; exact ⟨k, ⟨h, h2⟩, rfl⟩
def RetB (w : World) (l : List Bool) (e : Ending) (w' : World) : Prop := ∃ A n c x, e = .returned (.slice A n c) ∧ w' = ext w x ∧ OwB w.heap.size (ext w x) A n c l
/-- What valid slots and a day give. -/
theorem timed_facts {l : List (Int × Int)} {a b c gap : Int} {n : Nat} (hl : l.length = n) (ht : timedB l a b c gap = true) : slotsB l = true ∧ dayB a b c gap = true ∧ n ≤ 40 ∧ (runS l a b c gap 0 0).length = n ∧ (∀ x ∈ runS l a b c gap 0 0, 0 ≤ x ∧ x ≤ 1000000) ∧ (0 ≤ gap ∧ gap ≤ 300) := by
  obtain ⟨h1, h2⟩ := timedB_of ht
  have hb1 : 1 ≤ b := by simp only [dayB, Bool.and_eq_true] at h2; exact (inB_iff.1 h2.1.1.2).1
  have hSl := runS_len (a := a) (c := c) (gap := gap) (i := 0) (delay := 0) h1 hb1
  have hn40 := (slotsB_of h1).2.2
  have hg := h2
  simp only [dayB, Bool.and_eq_true] at hg
  exact ⟨h1, h2, by omega, by omega, runS_bd (i := 0) ht (Int.le_refl 0) (by omega), inB_iff.1 hg.2⟩
end Go.Proofs.YtpjaiihkgeabiaaDoor
