/- The program's board: the known programmes, ordered by their scores. Conditions: asked as the claim asks. -/
import Derived.Test.YtogglhgagblihaaZStab58
import Derived.Test.YtogglhgagblihaaZKnown
set_option linter.unusedVariables false
set_option linter.unusedSimpArgs false
set_option maxRecDepth 100000
namespace Go.Proofs.Ytogglhgagblihaa
open Go.RowKit
def bKey (S : List Int) (i : Int) : Int := - (S[i.toNat]?.getD 0)
theorem boardC (W w : World) (q : Nat) (A : Option Addr) (n cs : Nat) (S : List Int) (D : List Int) (g : Nat) (hr : RdI W A n S) (hq : q < W.heap.size) (hb : ∀ j : Nat, 0 ≤ S[j]?.getD 0 ∧ S[j]?.getD 0 ≤ 100000) (hc : W.cell? ⟨q, 0, none⟩ = some (.slice A n cs)) (hD : ∀ z ∈ D, ∃ i : Nat, i < n ∧ z = i) (hw : Below W.heap.size W w) (hg : W.heap.size ≤ g) :
    CmpI 124 (.pointer (some ⟨q, 0, none⟩)) (bKey S) D (some g) w := fun w' h2 x y hx hy => by
  obtain ⟨i, hi, rfl⟩ := hD x hx
  obtain ⟨j, hj, rfl⟩ := hD y hy
  have hb2 : Below W.heap.size W w' := hw.grown h2 hw.size (fun k hk => by injection hk with hk; omega)
  have hr2 := hr.below hb2
  obtain ⟨b, off, rfl, hlt, hcl⟩ := hr2.open_ (by omega)
  have hc2 : w'.cell? ⟨q, 0, none⟩ = some (.slice (some ⟨b, off, none⟩) n cs) := by rw [hb2.cell hq]; exact hc
  have h := boardF_any w' q b off n cs S i j hi hj (fun r hr' => by rw [← List.getD_eq_getElem?_getD]; exact hcl r hr') hb hc2
  have e : bKey S i - bKey S j = S[j]?.getD 0 - S[i]?.getD 0 := by simp only [bKey, Int.toNat_natCast]; omega
  rw [e]; exact h
theorem sortStableO (w : World) (base : Nat) (A : Option Addr) (n c : Nat) (L : List Int) (key : Int → Int) (p : Addr) (ho : OwI base w A n c L) (hn : n ≤ 1099511627776) (hC : ∀ g, base ≤ g → CmpI 124 (.pointer (some p)) key L (some g) w) :
    Calls Try.prog 123 #[.slice A n c, (.func (.func 124) #[] #[.pointer (some p)])] w fun e w' => e = .returned (.tuple #[]) ∧ ∃ T, Srt key T ∧ SF key T L ∧ OwI base w' A n c T ∧ ∃ row, w.grownBy w' row ∧ ∀ k, row = some k → base ≤ k := by
  rcases Nat.eq_zero_or_pos n with h | h
  · subst h
    have hL : L = [] := List.eq_nil_of_length_eq_zero ho.len
    subst hL
    exact (sortStable0 w A c p).mono fun e w' ⟨he, hw⟩ => ⟨he, [], Srt.nil, SF.refl _, hw ▸ ho, none, hw ▸ World.grownBy.refl _ _, fun k hk => by simp at hk⟩
  · obtain ⟨g, rfl, hg1, hg2⟩ := ho.form_ h
    exact (sortStable_any w base g n c L key p ho hn (hC g hg1)).mono fun e w' ⟨he, T, h1, h2, h3, h4⟩ => ⟨he, T, h1, h2, h3, some g, h4, fun k hk => by injection hk with hk; omega⟩
theorem pickI_mem {p : Nat → Bool} {n : Nat} : ∀ z ∈ pickI p n, ∃ i : Nat, i < n ∧ z = i := fun z hz => by
  simp only [pickI, List.mem_map, List.mem_filter, List.mem_range] at hz
  obtain ⟨i, ⟨hi, _⟩, rfl⟩ := hz
  exact ⟨i, hi, rfl⟩
end Go.Proofs.Ytogglhgagblihaa
