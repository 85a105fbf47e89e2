/- Items: how they read, and when one is valid, in the program and in the reference. Conditions: lengths below 2^40, strings below 2^63 bytes. -/
import Derived.Test.YtmeaklaagglmeaaGreatDoorXCode1
set_option linter.unusedVariables false
set_option linter.unusedSimpArgs false
set_option maxRecDepth 100000
namespace Go.Proofs.YtmeaklaagglmeaaGreatDoor
open Go.RowKit
abbrev It := List ByteArray × List Int × Bool
def zIt : It := ([], [], false)
def RdIt (w : World) (A : Option Addr) (n : Nat) (l : List It) : Prop :=
 l.length = n ∧ (0 < n → ∃ b off, A = some ⟨b, off, none⟩ ∧ b < w.heap.size ∧ ∀ j, j < n → ∃ NA nn nc MA mn mc, w.cell? ⟨b, off + j * 3, none⟩ = some (.slice NA nn nc) ∧ w.cell? ⟨b, off + j * 3 + 1, none⟩ = some (.slice MA mn mc) ∧ w.cell? ⟨b, off + j * 3 + 2, none⟩ = some (.bool (l[j]?.getD zIt).2.2) ∧ RdT w NA nn (l[j]?.getD zIt).1 ∧ RdI w MA mn (l[j]?.getD zIt).2.1 ∧ (nn ≤ nc ∧ nc ≤ maxLen) ∧ (mn ≤ mc ∧ mc ≤ maxLen))
theorem RdIt.below {w w' : World} {A : Option Addr} {n : Nat} {l : List It} (h : RdIt w A n l) (hb : Below w.heap.size w w') : RdIt w' A n l := by
 refine ⟨h.1, fun hn => ?_⟩
 obtain ⟨b, off, rfl, hlt, hc⟩ := h.2 hn
 refine ⟨b, off, rfl, Nat.lt_of_lt_of_le hlt hb.size, fun j hj => ?_⟩
 obtain ⟨NA, nn, nc, MA, mn, mc, h0, h1, h2, h3, h4, h5, h6⟩ := hc j hj
 exact ⟨NA, nn, nc, MA, mn, mc, (hb.cell (p := ⟨b, off + j * 3, none⟩) hlt).trans h0, (hb.cell (p := ⟨b, off + j * 3 + 1, none⟩) hlt).trans h1, (hb.cell (p := ⟨b, off + j * 3 + 2, none⟩) hlt).trans h2, h3.below hb, h4.below hb, h5, h6⟩
def namesB (l : List ByteArray) : Bool := l.all nameB
def itemB (it : It) : Bool := namesB it.1 && (inB it.1.length 1 3 && (decide (it.2.1.length = it.1.length) && allB it.2.1 0 3))
theorem namesB_no {l : List ByteArray} {k : Nat} (hk : k < l.length) (h : nameB (l[k]?.getD ByteArray.empty) = false) : namesB l = false := by
 unfold namesB
 rw [Bool.eq_false_iff]; intro hh
 have := List.all_eq_true.1 hh _ (getD_mem ByteArray.empty l k hk)
 rw [h] at this; cases this
theorem namesB_step {l : List ByteArray} {k : Nat} (hk : k < l.length) (h1 : namesB (l.take k) = true) (h : nameB (l[k]?.getD ByteArray.empty) = true) : namesB (l.take (k + 1)) = true := by
 unfold namesB at *
 rw [take_succ_getD ByteArray.empty l k hk, List.all_append, h1]
 simp [h]
set_option maxHeartbeats 1000000 in
theorem itGood_any (w : World) (NA MA : Option Addr) (nn nc mn mc : Nat) (names : List ByteArray) (marks : List Int) (late : Bool) (ha : RdT w NA nn names) (hb : RdI w MA mn marks) (hn : nn ≤ 1099511627776) (hm : mn ≤ 1099511627776) (hs : ∀ x ∈ names, x.size ≤ 9223372036854775807) :
  Calls Tryz.prog 161 #[.agg #[.slice NA nn nc, .slice MA mn mc, .bool late]] w fun e w' => e = .returned (.bool (itemB (names, marks, late))) ∧ ∃ y, w' = ext w y := by
 have Hl := Lib.hid ha.len
 have Hm := Lib.hid hb.len
 go_enter Tryz.func161, Tryz.ntmps161
 go_wp2
 go_loopw [4, 8] (fun _ i wr => ∃ (k : Nat), k ≤ nn ∧ i = .int .i64 k ∧ wr = w.alloc (.cells #[.slice NA nn nc, .slice MA mn mc, .bool late] 70) ∧ Hid (namesB (names.take k) = true)) (fun _ i _ => nn - (intOf i).toNat)
 case atStart => exact ⟨0, by omega, rfl, rfl, rfl⟩
 case round =>
  obtain ⟨k, hk, rfl, rfl, HT⟩ := hrel
  by_cases hlt : k < nn
  ·
   obtain ⟨b, off, rfl, hb0, hc⟩ := ha.open_ (by omega)
   have hck := hc k hlt
   have hsk := hs _ (getD_mem ByteArray.empty names k (by rw [Hl.out]; exact hlt))
   have cn := fun W => itName_any (names[k]?.getD ByteArray.empty) W hsk
   have HN := Lib.hid (@namesB_no names k (by rw [Hl.out]; exact hlt))
   have HS := Lib.hid (@namesB_step names k (by rw [Hl.out]; exact hlt) HT.out)
   clear hc
   generalize names[k]?.getD ByteArray.empty = s at *
   cases hq : nameB s
   ·
    rw [hq] at cn
    have HF := Lib.hid (HN.out hq)
    go_wp2_with ((go_at_call 209; ((with_reducible refine (cn _).mono ?_); rintro e w' ⟨rfl, rfl⟩)))
    go_ret
    exact ⟨ret_bool (by rw [itemB, HF.out]; rfl), ext_ex bl⟩
   ·
    rw [hq] at cn
    have HY := Lib.hid (HS.out hq)
    go_wp2_with ((go_at_call 209; ((with_reducible refine (cn _).mono ?_); rintro e w' ⟨rfl, rfl⟩)))
    go_roundw
    case rel => exact ⟨k + 1, by omega, by go_num, by first | rfl | trivial, HY.out⟩
    case measure => simp [intOf]; omega
  ·
   have HE := Lib.hid (show namesB names = true by have := HT.out; rwa [List.take_of_length_le (by rw [Hl.out]; omega)] at this)
   have HC : Hid (itemB (names, marks, late) = (inB (nn : Int) 1 3 && (decide (mn = nn) && allB marks 0 3))) := by unfold Hid itemB; simp only [HE.out, Hl.out, Hm.out, Bool.true_and]
   have c0 := fun W => l1In_any (nn : Int) 1 3 W
   have c2 := fun W (h : Below w.heap.size w W) => l1All_any W MA mn mc marks 0 3 (hb.below h) hm
   generalize inB (nn : Int) 1 3 = b0 at *
   generalize allB marks 0 3 = b2 at *
   clear HT HE hs
   cases b0
   ·
    go_wp2_with (first | (go_at_call 87; ((with_reducible refine (c0 _).mono ?_); rintro e w' ⟨rfl, rfl⟩)) | (go_at_call 99; ((with_reducible refine (c2 _ bl).mono ?_); rintro e w' ⟨rfl, rfl⟩)))
    go_ret
    exact ⟨ret_bool (by rw [HC.out]; simp), ext_ex bl⟩
   ·
    by_cases h5 : ¬ mn = nn
    ·
     have h5I : ¬ (mn : Int) = nn := by omega
     have h5B : ((mn : Int) == nn) = false := by simp; omega
     go_wp2_with (first | (go_at_call 87; ((with_reducible refine (c0 _).mono ?_); rintro e w' ⟨rfl, rfl⟩)) | (go_at_call 99; ((with_reducible refine (c2 _ bl).mono ?_); rintro e w' ⟨rfl, rfl⟩)))
     go_ret
     exact ⟨ret_bool (by rw [HC.out]; simp [h5]), ext_ex bl⟩
    ·
     obtain rfl : mn = nn := by omega
     clear h5
     go_wp2_with (first | (go_at_call 87; ((with_reducible refine (c0 _).mono ?_); rintro e w' ⟨rfl, rfl⟩)) | (go_at_call 99; ((with_reducible refine (c2 _ bl).mono ?_); rintro e w' ⟨rfl, rfl⟩)))
     go_ret
     exact ⟨ret_bool (by rw [HC.out]; simp), ext_ex bl⟩
set_option maxHeartbeats 1000000 in
theorem isItem_any (w : World) (NA MA : Option Addr) (nn nc mn mc : Nat) (names : List ByteArray) (marks : List Int) (late : Bool) (ha : RdT w NA nn names) (hb : RdI w MA mn marks) (hn : nn ≤ 1099511627776) (hm : mn ≤ 1099511627776) (hs : ∀ x ∈ names, x.size ≤ 9223372036854775807) :
  Calls Tryz.prog 213 #[.agg #[.slice NA nn nc, .slice MA mn mc, .bool late]] w fun e w' => e = .returned (.bool (itemB (names, marks, late))) ∧ ∃ y, w' = ext w y := by
 have Hl := Lib.hid ha.len
 have Hm := Lib.hid hb.len
 go_enter Tryz.func213, Tryz.ntmps213
 go_wp2
 go_loopw [4, 8] (fun _ i wr => ∃ (k : Nat), k ≤ nn ∧ i = .int .i64 k ∧ wr = w.alloc (.cells #[.slice NA nn nc, .slice MA mn mc, .bool late] 70) ∧ Hid (namesB (names.take k) = true)) (fun _ i _ => nn - (intOf i).toNat)
 case atStart => exact ⟨0, by omega, rfl, rfl, rfl⟩
 case round =>
  obtain ⟨k, hk, rfl, rfl, HT⟩ := hrel
  by_cases hlt : k < nn
  ·
   obtain ⟨b, off, rfl, hb0, hc⟩ := ha.open_ (by omega)
   have hck := hc k hlt
   have hsk := hs _ (getD_mem ByteArray.empty names k (by rw [Hl.out]; exact hlt))
   have cn := fun W => isName_any (names[k]?.getD ByteArray.empty) W hsk
   have HN := Lib.hid (@namesB_no names k (by rw [Hl.out]; exact hlt))
   have HS := Lib.hid (@namesB_step names k (by rw [Hl.out]; exact hlt) HT.out)
   clear hc
   generalize names[k]?.getD ByteArray.empty = s at *
   cases hq : nameB s
   ·
    rw [hq] at cn
    have HF := Lib.hid (HN.out hq)
    go_wp2_with ((go_at_call 258; ((with_reducible refine (cn _).mono ?_); rintro e w' ⟨rfl, rfl⟩)))
    go_ret
    exact ⟨ret_bool (by rw [itemB, HF.out]; rfl), ext_ex bl⟩
   ·
    rw [hq] at cn
    have HY := Lib.hid (HS.out hq)
    go_wp2_with ((go_at_call 258; ((with_reducible refine (cn _).mono ?_); rintro e w' ⟨rfl, rfl⟩)))
    go_roundw
    case rel => exact ⟨k + 1, by omega, by go_num, by first | rfl | trivial, HY.out⟩
    case measure => simp [intOf]; omega
  ·
   have HE := Lib.hid (show namesB names = true by have := HT.out; rwa [List.take_of_length_le (by rw [Hl.out]; omega)] at this)
   have HC : Hid (itemB (names, marks, late) = (inB (nn : Int) 1 3 && (decide (mn = nn) && allB marks 0 3))) := by unfold Hid itemB; simp only [HE.out, Hl.out, Hm.out, Bool.true_and]
   have c0 := fun W => within_any (nn : Int) 1 3 W
   have c2 := fun W (h : Below w.heap.size w W) => allWithin_any W MA mn mc marks 0 3 (hb.below h) hm
   generalize inB (nn : Int) 1 3 = b0 at *
   generalize allB marks 0 3 = b2 at *
   clear HT HE hs
   cases b0
   ·
    go_wp2_with (first | (go_at_call 91; ((with_reducible refine (c0 _).mono ?_); rintro e w' ⟨rfl, rfl⟩)) | (go_at_call 106; ((with_reducible refine (c2 _ bl).mono ?_); rintro e w' ⟨rfl, rfl⟩)))
    go_ret
    exact ⟨ret_bool (by rw [HC.out]; simp), ext_ex bl⟩
   ·
    by_cases h5 : ¬ mn = nn
    ·
     have h5I : ¬ (mn : Int) = nn := by omega
     have h5B : ((mn : Int) == nn) = false := by simp; omega
     go_wp2_with (first | (go_at_call 91; ((with_reducible refine (c0 _).mono ?_); rintro e w' ⟨rfl, rfl⟩)) | (go_at_call 106; ((with_reducible refine (c2 _ bl).mono ?_); rintro e w' ⟨rfl, rfl⟩)))
     go_ret
     exact ⟨ret_bool (by rw [HC.out]; simp [h5]), ext_ex bl⟩
    ·
     obtain rfl : mn = nn := by omega
     clear h5
     go_wp2_with (first | (go_at_call 91; ((with_reducible refine (c0 _).mono ?_); rintro e w' ⟨rfl, rfl⟩)) | (go_at_call 106; ((with_reducible refine (c2 _ bl).mono ?_); rintro e w' ⟨rfl, rfl⟩)))
     go_ret
     exact ⟨ret_bool (by rw [HC.out]; simp), ext_ex bl⟩
end Go.Proofs.YtmeaklaagglmeaaGreatDoor
