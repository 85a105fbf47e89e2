/- eqMarks, markMarks; Marks that came in, opened. Conditions: lengths below 2^40. -/
import Derived.Test.YtfmidngndddfiaaGreatDoorMarks3
set_option linter.unusedVariables false
set_option linter.unusedSimpArgs false
set_option maxRecDepth 100000
namespace Go.Proofs.YtfmidngndddfiaaGreatDoor
open Go.ChangeShapes Go.WideShapes Go.ChangeAt Go.RowKit
set_option maxHeartbeats 400000 in
theorem eqMarks_any (w : World) (A B A' B' : Option Addr) (n m c d n' m' c' d' : Nat) (gg kk : List (List Int)) (ha : RdM w A n gg) (hb : RdM w B m kk) (ha' : RdM w A' n' gg) (hb' : RdM w B' m' kk) (hn : n ≤ 1099511627776) (hm : m ≤ 1099511627776) (hrg : ∀ j, j < n → (gg[j]?.getD []).length ≤ 1099511627776) (hrk : ∀ j, j < m → (kk[j]?.getD []).length ≤ 1099511627776) :
    Calls Tryz.prog 36 #[.agg #[.slice A n c, .slice B m d], .agg #[.slice A' n' c', .slice B' m' d']] w fun e w' => e = .returned (.bool true) ∧ ∃ x, w' = ext w x := by
  go_enter Tryz.func36, Tryz.ntmps36
  go_wp2_with (first | (go_at_call 68; ((with_reducible refine (eqIntSS_any _ _ _ _ _ _ _ _ (ha.below (by repeat (first | exact Below.refl _ _ | assumption | refine bExt ?_ _ | refine bAlloc ?_ _ | refine bDrewN ?_ _ | refine bDrew ?_ | refine bSet ?_ (by first | exact Nat.le_refl _ | omega | (simp; done) | (simp; omega)) _))) (ha'.below (by repeat (first | exact Below.refl _ _ | assumption | refine bExt ?_ _ | refine bAlloc ?_ _ | refine bDrewN ?_ _ | refine bDrew ?_ | refine bSet ?_ (by first | exact Nat.le_refl _ | omega | (simp; done) | (simp; omega)) _))) hn hrg).mono ?_); rintro e w' ⟨rfl, x, rfl⟩)) | (go_at_call 68; ((with_reducible refine (eqIntSS_any _ _ _ _ _ _ _ _ (hb.below (by repeat (first | exact Below.refl _ _ | assumption | refine bExt ?_ _ | refine bAlloc ?_ _ | refine bDrewN ?_ _ | refine bDrew ?_ | refine bSet ?_ (by first | exact Nat.le_refl _ | omega | (simp; done) | (simp; omega)) _))) (hb'.below (by repeat (first | exact Below.refl _ _ | assumption | refine bExt ?_ _ | refine bAlloc ?_ _ | refine bDrewN ?_ _ | refine bDrew ?_ | refine bSet ?_ (by first | exact Nat.le_refl _ | omega | (simp; done) | (simp; omega)) _))) hm hrk).mono ?_); rintro e w' ⟨rfl, y, rfl⟩)))
  go_ret
  exact ⟨rfl, ext_ex (by repeat (first | exact Below.refl _ _ | assumption | refine bExt ?_ _ | refine bAlloc ?_ _ | refine bDrewN ?_ _ | refine bDrew ?_ | refine bSet ?_ (by first | exact Nat.le_refl _ | omega | (simp; done) | (simp; omega)) _))⟩
set_option maxRecDepth 100000 in
theorem open_RdM {H : Type} {enc : TypeId × Value → H} {W : World} {fuel : Nat} {v : Value} {y : DataW H × List MemPlace}
    (hf : DataW.trod enc Tryz.prog W 0 (fun _ => true) true fuel 27 [v] = some y) :
    ∃ A n c ll, v = .slice A n c ∧ RdM W A n ll ∧ n ≤ c ∧ c ≤ maxLen := by
  rcases Go.Deep.open_int_rows Tryz.underlying27 Tryz.underlying23 Tryz.underlying3 (by kernel_rfl) (by kernel_rfl) hf with ⟨hcs, _⟩ | ⟨a, len, cap, A, L, C, Z, hcs, _, hl, hm, _, hrow⟩
  · injection hcs with hcs
    subst hcs
    exact ⟨none, 0, 0, [], rfl, ⟨rfl, fun h => absurd h (by omega)⟩, Nat.le_refl _, by simp [maxLen]⟩
  · injection hcs with hcs
    subst hcs
    refine ⟨some a, len, cap, (List.range len).map fun j => (Z j).take (L j), rfl, ⟨by simp, fun hn => ?_⟩, hl, hm⟩
    obtain ⟨b, off, spot⟩ := a
    have hc0 := (hrow 0 (by omega)).1
    have hspot : spot = none := by simpa [Addr.add] using World.cell?_spot hc0
    subst hspot
    have hb : b < W.heap.size := World.block_lt_of_cell? W _ (by simpa [Addr.add] using hc0)
    have hadd : ∀ (b off j : Nat), (⟨b, off, none⟩ : Addr).add j = ⟨b, off + j, none⟩ := fun b off j => by unfold Addr.add; split <;> simp_all
    refine ⟨b, off, rfl, hb, fun j hj => ?_⟩
    obtain ⟨h1, h2, h3, h4, h5, h6, h7⟩ := hrow j (by omega)
    rw [hadd] at h1
    refine ⟨A j, L j, C j, h1, ?_, h2, h3⟩
    have e : ((List.range len).map fun j => (Z j).take (L j))[j]?.getD [] = (Z j).take (L j) := by simp [hj]
    rw [e]
    refine ⟨by simp; omega, fun hL => ?_⟩
    cases hA : A j with
    | none => have := h6 hA; omega
    | some a' =>
      obtain ⟨b', off', spot'⟩ := a'
      have h8 := (h7 _ hA).2
      have hc1 := h8 0 (by omega)
      have hspot' : spot' = none := by simpa [Addr.add] using World.cell?_spot hc1
      subst hspot'
      have hb' : b' < W.heap.size := World.block_lt_of_cell? W _ (by simpa [Addr.add] using hc1)
      refine ⟨b', off', rfl, hb', fun i u hu => ?_⟩
      simp only [List.getElem?_map, Option.map_eq_some_iff] at hu
      obtain ⟨y, hy, rfl⟩ := hu
      have hi : i < L j := by
        have := (List.getElem?_eq_some_iff.1 hy).1
        simp at this; omega
      have h9 := h8 i (by omega)
      rw [hadd] at h9
      rw [h9]
      have : (Z j).getD i 0 = y := by
        rw [List.getElem?_take_of_lt hi] at hy
        simp [List.getD, hy]
      rw [this]
end Go.Proofs.YtfmidngndddfiaaGreatDoor
