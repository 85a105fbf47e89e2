/- The law file's functions on items: copies, sizes, comparing. Conditions: lengths below 2^40. -/
import Derived.Test.YtmeaklaagglmeaaGreatDoorXLawEl
import Derived.Test.YtmeaklaagglmeaaGreatDoorXItemQ
set_option linter.unusedVariables false
set_option linter.unusedSimpArgs false
set_option maxRecDepth 100000
namespace Go.Proofs.YtmeaklaagglmeaaGreatDoor
open Go.ChangeShapes Go.WideShapes Go.ChangeAt Go.RowKit
theorem OwI.setLow {base n c g k : Nat} {w : World} {A : Option Addr} {l : List Int} {v : Value} (h : OwI base w A n c l) (hg : g < base) : OwI base (w.setCell ⟨g, k, none⟩ v) A n c l := by
 refine h.kept (gSetM w g k v) ?_
 cases hA : blkOf A with
 | none => exact .inl rfl
 | some z => exact .inr fun e => by have := (h.blk hA).1; injection e with e; omega
theorem OwT.setLow {base n c g k : Nat} {w : World} {A : Option Addr} {l : List ByteArray} {v : Value} (h : OwT base w A n c l) (hg : g < base) : OwT base (w.setCell ⟨g, k, none⟩ v) A n c l := by
 refine h.kept (gSetM w g k v) ?_
 cases hA : blkOf A with
 | none => exact .inl rfl
 | some z => exact .inr fun e => by have := (h.blk hA).1; injection e with e; omega
theorem Item_info : (Tryz.prog.info? 70).map (fun i => (i.zero, i.size, i.bytes)) = some (some (.agg #[.slice none 0 0, .slice none 0 0, .bool false]), 3, 56) := by kernel_rfl
abbrev C3 := Value × Value × Value
def nil3 : C3 := (.slice none 0 0, .slice none 0 0, .bool false)
def cells3 (l : List C3) : List Value := l.flatMap fun p => [p.1, p.2.1, p.2.2]
theorem cells3_cons (a : C3) (r : List C3) : cells3 (a :: r) = a.1 :: a.2.1 :: a.2.2 :: cells3 r := by simp [cells3]
theorem cells3_get (l : List C3) (k : Nat) (h : k < l.length) : (cells3 l)[k * 3]? = some (l[k]?.getD nil3).1 ∧ (cells3 l)[k * 3 + 1]? = some (l[k]?.getD nil3).2.1 ∧ (cells3 l)[k * 3 + 2]? = some (l[k]?.getD nil3).2.2 := by
 induction l generalizing k with
 | nil => simp at h
 | cons a r ih =>
  rw [cells3_cons]
  cases k with
  | zero => simp
  | succ k =>
   have := ih k (by simpa using h)
   rw [show (k + 1) * 3 = k * 3 + 1 + 1 + 1 by omega, show k * 3 + 1 + 1 + 1 + 1 = (k * 3 + 1) + 1 + 1 + 1 by omega, show k * 3 + 1 + 1 + 1 + 2 = (k * 3 + 2) + 1 + 1 + 1 by omega]
   simpa only [List.getElem?_cons_succ] using this
theorem cells3_set (m : List C3) (k : Nat) (x : C3) (h : k < m.length) : (((cells3 m).set (k * 3) x.1).set (k * 3 + 1) x.2.1).set (k * 3 + 2) x.2.2 = cells3 (m.set k x) := by
 induction m generalizing k with
 | nil => simp at h
 | cons p r ih =>
  rw [cells3_cons]
  cases k with
  | zero => simp [cells3_cons]
  | succ k =>
   rw [show (k + 1) * 3 = k * 3 + 1 + 1 + 1 by omega, show k * 3 + 1 + 1 + 1 + 1 = (k * 3 + 1) + 1 + 1 + 1 by omega, show k * 3 + 1 + 1 + 1 + 2 = (k * 3 + 2) + 1 + 1 + 1 by omega]
   simp only [List.set_cons_succ]
   rw [ih k (by simpa using h), cells3_cons]
theorem eqItem_any (w : World) (NA MA : Option Addr) (nn nc mn mc : Nat) (NB MB : Option Addr) (nn' nc' mn' mc' : Nat) (names : List ByteArray) (marks : List Int) (late : Bool) (hN : RdT w NA nn names) (hM : RdI w MA mn marks) (hN' : RdT w NB nn' names) (hM' : RdI w MB mn' marks) (hn : nn ≤ 1099511627776) (hm : mn ≤ 1099511627776) :
  Calls Tryz.prog 116 #[.agg #[.slice NA nn nc, .slice MA mn mc, .bool late], .agg #[.slice NB nn' nc', .slice MB mn' mc', .bool late]] w fun e w' => e = .returned (.bool true) ∧ ∃ y, w' = ext w y := by
 have c1 := fun W (h : Below w.heap.size w W) => eqStringS_any W NA NB nn nn' nc nc' names (hN.below h) (hN'.below h) hn
 have c2 := fun W (h : Below w.heap.size w W) => eqIntS_any W MA MB mn mn' mc mc' marks marks (hM.below h) (hM'.below h) hm
 have hbe : (marks == marks) = true := by simp
 simp only [hbe] at c2
 clear hN hM hN' hM'
 go_enter Tryz.func116, Tryz.ntmps116
 go_wp2_with (first | (go_at_call 170; ((with_reducible refine (c1 _ bl).mono ?_); rintro e w' ⟨rfl, y1, rfl⟩)) | (go_at_call 60; ((with_reducible refine (c2 _ bl).mono ?_); rintro e w' ⟨rfl, y2, rfl⟩)))
 go_ret
 exact ⟨rfl, ext_ex bl⟩
set_option maxHeartbeats 1000000 in
theorem eqItemS_any (w : World) (A B : Option Addr) (n m c d : Nat) (l : List It) (ha : RdIt w A n l) (hb : RdIt w B m l) (hn : n ≤ 1099511627776) (hs : ∀ x ∈ l, itSmall x) :
  Calls Tryz.prog 56 #[.slice A n c, .slice B m d] w fun e w' => e = .returned (.bool true) ∧ ∃ x, w' = ext w x := by
 obtain rfl : n = m := ha.len.symm.trans hb.len
 have Hl := Lib.hid ha.len
 go_enter Tryz.func56, Tryz.ntmps56
 go_wp2
 go_loopw [5] (fun i wr => ∃ k x, k ≤ n ∧ i = .int .i64 (k : Nat) ∧ wr = ext w x) (fun i _ => n - (intOf i).toNat)
 case atStart => exact ⟨0, _, Nat.zero_le _, rfl, ext_self w⟩
 case round =>
  obtain ⟨k, x, hk, rfl, rfl⟩ := hrel
  by_cases hlt : k < n
  ·
   obtain ⟨b1, o1, NA, nn, nc, MA, mn, mc, rfl, hb1, hc0, hc1, hc2, hN, hM, _, _⟩ := ha.at_ k hlt
   obtain ⟨b2, o2, NB, nn', nc', MB, mn', mc', rfl, hb2, hd0, hd1, hd2, hN', hM', _, _⟩ := hb.at_ k hlt
   obtain ⟨z1, z2, z3⟩ := hs _ (getD_mem zIt l k (by rw [Hl.out]; exact hlt))
   have hnn : nn ≤ 1099511627776 := by rw [← hN.len]; exact z1
   have hmn : mn ≤ 1099511627776 := by rw [← hM.len]; exact z2
   have ce := fun W (h : Below w.heap.size w W) => eqItem_any W NA MA nn nc mn mc NB MB nn' nc' mn' mc' (l[k]?.getD zIt).1 (l[k]?.getD zIt).2.1 (l[k]?.getD zIt).2.2 (hN.below h) (hM.below h) (hN'.below h) (hM'.below h) hnn hmn
   clear hN hM hN' hM' z1 z2 z3
   go_wp2
   go_still_tail 8, (by kernel_rfl)
   change wpList _ _ _ _ _ (ext w x).drew
   go_wp2_with (go_at_call 116; ((with_reducible refine (ce _ bl).mono ?_); rintro e w' ⟨rfl, y, rfl⟩))
   go_roundw
   case rel => exact ⟨k + 1, _, by omega, by go_num, (ext_ex bl).choose_spec⟩
   case measure => simp [intOf]; omega
  ·
   go_wp2
   go_ret
   exact ⟨rfl, _, rfl⟩
end Go.Proofs.YtmeaklaagglmeaaGreatDoor
