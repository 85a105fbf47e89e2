/- Contracts on lists of items. Conditions: lengths below 2^40, strings below 2^63 bytes. -/
import Derived.Test.YtmeaklaagglmeaaGreatDoorXItemP
set_option linter.unusedVariables false
set_option linter.unusedSimpArgs false
set_option maxRecDepth 100000
namespace Go.Proofs.YtmeaklaagglmeaaGreatDoor
open Go.RowKit
theorem RdIt.len {w : World} {A : Option Addr} {n : Nat} {l : List It} (h : RdIt w A n l) : l.length = n := h.1
theorem RdIt.at_ {w : World} {A : Option Addr} {n : Nat} {l : List It} (h : RdIt w A n l) (k : Nat) (hk : k < n) : ∃ b off NA nn nc MA mn mc, A = some ⟨b, off, none⟩ ∧ b < w.heap.size ∧ w.cell? ⟨b, off + k * 3, none⟩ = some (.slice NA nn nc) ∧ w.cell? ⟨b, off + k * 3 + 1, none⟩ = some (.slice MA mn mc) ∧ w.cell? ⟨b, off + k * 3 + 2, none⟩ = some (.bool (l[k]?.getD zIt).2.2) ∧ RdT w NA nn (l[k]?.getD zIt).1 ∧ RdI w MA mn (l[k]?.getD zIt).2.1 ∧ (nn ≤ nc ∧ nc ≤ maxLen) ∧ (mn ≤ mc ∧ mc ≤ maxLen) := by
 obtain ⟨b, off, e, hlt, hc⟩ := h.2 (by omega)
 obtain ⟨NA, nn, nc, MA, mn, mc, h1⟩ := hc k hk
 exact ⟨b, off, NA, nn, nc, MA, mn, mc, e, hlt, h1⟩
def itSmall (it : It) : Prop := it.1.length ≤ 1099511627776 ∧ it.2.1.length ≤ 1099511627776 ∧ ∀ x ∈ it.1, x.size ≤ 9223372036854775807
def itemsB (l : List It) : Bool := l.all itemB && decide (l.length ≤ 14)
theorem itemsB_no {l : List It} {k : Nat} (hk : k < l.length) (h : itemB (l[k]?.getD zIt) = false) : itemsB l = false := by
 unfold itemsB
 rw [Bool.and_eq_false_iff]; left
 rw [Bool.eq_false_iff]; intro hh
 have := List.all_eq_true.1 hh _ (getD_mem zIt l k hk)
 rw [h] at this; cases this
theorem items_step {l : List It} {k : Nat} (hk : k < l.length) (h1 : (l.take k).all itemB = true) (h : itemB (l[k]?.getD zIt) = true) : (l.take (k + 1)).all itemB = true := by
 rw [take_succ_getD zIt l k hk, List.all_append, h1]
 simp [h]
set_option maxHeartbeats 1000000 in
theorem itList_any (w : World) (A : Option Addr) (n c : Nat) (its : List It) (ha : RdIt w A n its) (hn : n ≤ 1099511627776) (hs : ∀ x ∈ its, itSmall x) :
  Calls Tryz.prog 251 #[.slice A n c] w fun e w' => e = .returned (.bool (itemsB its)) ∧ ∃ y, w' = ext w y := by
 have Hl := Lib.hid ha.len
 go_enter Tryz.func251, Tryz.ntmps251
 go_wp2
 go_loopw [4, 7] (fun _ i wr => ∃ (k : Nat) (y : World), k ≤ n ∧ i = .int .i64 k ∧ wr = ext w y ∧ Hid ((its.take k).all itemB = true)) (fun _ i _ => n - (intOf i).toNat)
 case atStart => exact ⟨0, _, by omega, rfl, ext_self w, rfl⟩
 case round =>
  obtain ⟨k, y, hk, rfl, rfl, HT⟩ := hrel
  by_cases hlt : k < n
  ·
   obtain ⟨b, off, NA, nn, nc, MA, mn, mc, rfl, hb0, hc0, hc1, hc2, hN, hM, _, _⟩ := ha.at_ k hlt
   obtain ⟨z1, z2, z3⟩ := hs _ (getD_mem zIt its k (by rw [Hl.out]; exact hlt))
   have HN := Lib.hid (@itemsB_no its k (by rw [Hl.out]; exact hlt))
   have HS := Lib.hid (@items_step its k (by rw [Hl.out]; exact hlt) HT.out)
   generalize its[k]?.getD zIt = it at *
   obtain ⟨names, marks, late⟩ := it
   simp only at hc2 hN hM z1 z2 z3
   have hnn : nn ≤ 1099511627776 := by rw [← hN.len]; exact z1
   have hmn : mn ≤ 1099511627776 := by rw [← hM.len]; exact z2
   have cg := fun W (h : Below w.heap.size w W) => itGood_any W NA MA nn nc mn mc names marks late (hN.below h) (hM.below h) hnn hmn z3
   cases hq : itemB (names, marks, late)
   ·
    simp only [hq] at cg
    have HF := Lib.hid (HN.out hq)
    go_wp2_with ((go_at_call 161; ((with_reducible refine (cg _ bl).mono ?_); rintro e w' ⟨rfl, y2, rfl⟩)))
    go_ret
    exact ⟨ret_bool (by rw [HF.out]), ext_ex bl⟩
   ·
    simp only [hq] at cg
    have HY := Lib.hid (HS.out hq)
    go_wp2_with ((go_at_call 161; ((with_reducible refine (cg _ bl).mono ?_); rintro e w' ⟨rfl, y2, rfl⟩)))
    go_roundw
    case rel => exact ⟨k + 1, _, by omega, by go_num, (ext_ex bl).choose_spec, HY.out⟩
    case measure => simp [intOf]; omega
  ·
   have HE := Lib.hid (show itemsB its = decide (n ≤ 14) by have := HT.out; rw [List.take_of_length_le (by rw [Hl.out]; omega)] at this; rw [itemsB, this, Hl.out, Bool.true_and])
   go_wp2
   go_ret
   exact ⟨ret_bool (by rw [HE.out]; exact decide_eq_decide.2 (by omega)), ext_ex bl⟩
set_option maxHeartbeats 1000000 in
theorem areItems_any (w : World) (A : Option Addr) (n c : Nat) (its : List It) (ha : RdIt w A n its) (hn : n ≤ 1099511627776) (hs : ∀ x ∈ its, itSmall x) :
  Calls Tryz.prog 195 #[.slice A n c] w fun e w' => e = .returned (.bool (itemsB its)) ∧ ∃ y, w' = ext w y := by
 have Hl := Lib.hid ha.len
 go_enter Tryz.func195, Tryz.ntmps195
 go_wp2
 go_loopw [4, 7] (fun _ i wr => ∃ (k : Nat) (y : World), k ≤ n ∧ i = .int .i64 k ∧ wr = ext w y ∧ Hid ((its.take k).all itemB = true)) (fun _ i _ => n - (intOf i).toNat)
 case atStart => exact ⟨0, _, by omega, rfl, ext_self w, rfl⟩
 case round =>
  obtain ⟨k, y, hk, rfl, rfl, HT⟩ := hrel
  by_cases hlt : k < n
  ·
   obtain ⟨b, off, NA, nn, nc, MA, mn, mc, rfl, hb0, hc0, hc1, hc2, hN, hM, _, _⟩ := ha.at_ k hlt
   obtain ⟨z1, z2, z3⟩ := hs _ (getD_mem zIt its k (by rw [Hl.out]; exact hlt))
   have HN := Lib.hid (@itemsB_no its k (by rw [Hl.out]; exact hlt))
   have HS := Lib.hid (@items_step its k (by rw [Hl.out]; exact hlt) HT.out)
   generalize its[k]?.getD zIt = it at *
   obtain ⟨names, marks, late⟩ := it
   simp only at hc2 hN hM z1 z2 z3
   have hnn : nn ≤ 1099511627776 := by rw [← hN.len]; exact z1
   have hmn : mn ≤ 1099511627776 := by rw [← hM.len]; exact z2
   have cg := fun W (h : Below w.heap.size w W) => isItem_any W NA MA nn nc mn mc names marks late (hN.below h) (hM.below h) hnn hmn z3
   cases hq : itemB (names, marks, late)
   ·
    simp only [hq] at cg
    have HF := Lib.hid (HN.out hq)
    go_wp2_with ((go_at_call 213; ((with_reducible refine (cg _ bl).mono ?_); rintro e w' ⟨rfl, y2, rfl⟩)))
    go_ret
    exact ⟨ret_bool (by rw [HF.out]), ext_ex bl⟩
   ·
    simp only [hq] at cg
    have HY := Lib.hid (HS.out hq)
    go_wp2_with ((go_at_call 213; ((with_reducible refine (cg _ bl).mono ?_); rintro e w' ⟨rfl, y2, rfl⟩)))
    go_roundw
    case rel => exact ⟨k + 1, _, by omega, by go_num, (ext_ex bl).choose_spec, HY.out⟩
    case measure => simp [intOf]; omega
  ·
   have HE := Lib.hid (show itemsB its = decide (n ≤ 14) by have := HT.out; rw [List.take_of_length_le (by rw [Hl.out]; omega)] at this; rw [itemsB, this, Hl.out, Bool.true_and])
   go_wp2
   go_ret
   exact ⟨ret_bool (by rw [HE.out]; exact decide_eq_decide.2 (by omega)), ext_ex bl⟩
end Go.Proofs.YtmeaklaagglmeaaGreatDoor
