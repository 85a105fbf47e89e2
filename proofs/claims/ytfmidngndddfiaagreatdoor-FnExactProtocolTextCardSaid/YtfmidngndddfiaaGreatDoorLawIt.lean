/- The law file's functions on items: copies, sizes, comparing. Conditions: lengths below 2^40. -/
import Derived.Test.YtfmidngndddfiaaGreatDoorLawEl
import Derived.Test.YtfmidngndddfiaaGreatDoorItemQ
set_option linter.unusedVariables false
set_option linter.unusedSimpArgs false
set_option maxRecDepth 100000
namespace Go.Proofs.YtfmidngndddfiaaGreatDoor
open Go.ChangeShapes Go.WideShapes Go.ChangeAt Go.RowKit
theorem szVW (l t : Int) : szV l t = szW l t := rfl
def itW (it : It) : Int := strTotal it.1 + it.2.1.length
theorem strT_pos (l : List ByteArray) : 0 ≤ strTotal l := by have := strSum_nonneg l; unfold strTotal; omega
theorem itW_pos (it : It) : 0 ≤ itW it := by have := strT_pos it.1; unfold itW; omega
def itTotal (l : List It) : Int := l.length + wtS itW l
/-- The strings that items hold are no longer than a string can be. -/
def itStr (l : List It) : Prop := ∀ it ∈ l, ∀ s ∈ it.1, s.size ≤ 9223372036854775807
theorem szItem_any (w : World) (NA MA : Option Addr) (nn nc mn mc : Nat) (it : It) (left : Int) (hl : 0 ≤ left) (hl2 : left ≤ 1099511627776) (hN : RdT w NA nn it.1) (hM : RdI w MA mn it.2.1) (hn : nn ≤ 9223372036854775807) (hm : mn ≤ 9223372036854775807) (hs : ∀ s ∈ it.1, s.size ≤ 9223372036854775807) :
    Calls Tryz.prog 47 #[.agg #[.slice NA nn nc, .slice MA mn mc, .bool it.2.2], .int .i64 left] w fun e w' => e = .returned (.int .i64 (szW left (itW it))) ∧ ∃ y, w' = ext w y := by
  have hT := strT_pos it.1
  have Hm := Lib.hid hM.len
  have HW : Hid (itW it = strTotal it.1 + mn) := by unfold Hid itW; rw [Hm.out]
  by_cases h1 : left < strTotal it.1
  · have e1 : szW left (strTotal it.1) = -1 := by rw [szW, if_pos h1]
    have e2 : szW left (itW it) = -1 := by rw [szW, if_pos (by rw [HW.out]; omega)]
    rw [e2]
    have c1 := fun W (h : Below w.heap.size w W) => szStringS_any W NA nn nc left hl hl2 hn it.1 (hN.below h) hs
    simp only [szVW, e1] at c1
    go_enter Tryz.func47, Tryz.ntmps47
    go_wp2_with (first | (go_at_call 80; ((with_reducible refine (c1 _ (by repeat (first | exact Below.refl _ _ | assumption | refine bExt ?_ _ | refine bAlloc ?_ _ | refine bDrewN ?_ _ | refine bDrew ?_ | refine bSet ?_ (by first | exact Nat.le_refl _ | omega | (simp; done) | (simp; omega)) _))).mono ?_); rintro e w' ⟨rfl, rfl⟩)))
    go_ret
    exact ⟨rfl, ext_ex (by repeat (first | exact Below.refl _ _ | assumption | refine bExt ?_ _ | refine bAlloc ?_ _ | refine bDrewN ?_ _ | refine bDrew ?_ | refine bSet ?_ (by first | exact Nat.le_refl _ | omega | (simp; done) | (simp; omega)) _))⟩
  · have e1 : szW left (strTotal it.1) = left - strTotal it.1 := by rw [szW, if_neg h1]
    have c1 := fun W (h : Below w.heap.size w W) => szStringS_any W NA nn nc left hl hl2 hn it.1 (hN.below h) hs
    simp only [szVW, e1] at c1
    have hnn : ¬ left - strTotal it.1 < 0 := by omega
    have c2 := fun W => szIntS_any W MA mn mc (left - strTotal it.1) (by omega) (by omega) hm
    by_cases h2 : left - strTotal it.1 < mn
    · have e2 : szW (left - strTotal it.1) mn = -1 := by rw [szW, if_pos h2]
      have e3 : szW left (itW it) = -1 := by rw [szW, if_pos (by rw [HW.out]; omega)]
      simp only [e2] at c2
      rw [e3]
      generalize strTotal it.1 = tg at *
      go_enter Tryz.func47, Tryz.ntmps47
      go_wp2_with (first | (go_at_call 80; ((with_reducible refine (c1 _ (by repeat (first | exact Below.refl _ _ | assumption | refine bExt ?_ _ | refine bAlloc ?_ _ | refine bDrewN ?_ _ | refine bDrew ?_ | refine bSet ?_ (by first | exact Nat.le_refl _ | omega | (simp; done) | (simp; omega)) _))).mono ?_); rintro e w' ⟨rfl, rfl⟩)) | (go_at_call 19; ((with_reducible refine (c2 _).mono ?_); rintro e w' ⟨rfl, rfl⟩)))
      go_ret
      exact ⟨rfl, ext_ex (by repeat (first | exact Below.refl _ _ | assumption | refine bExt ?_ _ | refine bAlloc ?_ _ | refine bDrewN ?_ _ | refine bDrew ?_ | refine bSet ?_ (by first | exact Nat.le_refl _ | omega | (simp; done) | (simp; omega)) _))⟩
    · have e2 : szW (left - strTotal it.1) mn = left - strTotal it.1 - mn := by rw [szW, if_neg h2]
      have e3 : szW left (itW it) = left - strTotal it.1 - mn := by rw [szW, if_neg (by rw [HW.out]; omega), HW.out]; omega
      simp only [e2] at c2
      rw [e3]
      have hn2 : ¬ left - strTotal it.1 - mn < 0 := by omega
      generalize strTotal it.1 = tg at *
      go_enter Tryz.func47, Tryz.ntmps47
      go_wp2_with (first | (go_at_call 80; ((with_reducible refine (c1 _ (by repeat (first | exact Below.refl _ _ | assumption | refine bExt ?_ _ | refine bAlloc ?_ _ | refine bDrewN ?_ _ | refine bDrew ?_ | refine bSet ?_ (by first | exact Nat.le_refl _ | omega | (simp; done) | (simp; omega)) _))).mono ?_); rintro e w' ⟨rfl, rfl⟩)) | (go_at_call 19; ((with_reducible refine (c2 _).mono ?_); rintro e w' ⟨rfl, rfl⟩)))
      go_ret
      exact ⟨rfl, ext_ex (by repeat (first | exact Below.refl _ _ | assumption | refine bExt ?_ _ | refine bAlloc ?_ _ | refine bDrewN ?_ _ | refine bDrew ?_ | refine bSet ?_ (by first | exact Nat.le_refl _ | omega | (simp; done) | (simp; omega)) _))⟩
set_option maxHeartbeats 400000 in
theorem szItemS_any (w : World) (A : Option Addr) (n c : Nat) (left : Int) (hl : 0 ≤ left) (hl2 : left ≤ 1099511627776) (hn : n ≤ 9223372036854775807) (l : List It) (ha : RdIt w A n l) (hsz : itStr l) :
    Calls Tryz.prog 20 #[.slice A n c, .int .i64 left] w fun e w' => e = .returned (.int .i64 (szW left (itTotal l))) ∧ ∃ y, w' = ext w y := by
  have Hl := Lib.hid ha.len
  have hT : Hid (itTotal l = n + wtS itW l) := by rw [itTotal, Hl.out]; rfl
  have hpos := wtS_nonneg itW_pos l
  by_cases h : left < n
  · have e1 : szW left (itTotal l) = -1 := by rw [szW, if_pos (by rw [hT.out]; omega)]
    rw [e1]
    go_enter Tryz.func20, Tryz.ntmps20
    go_wp2
    go_ret
    exact ⟨rfl, ext_ex (by repeat (first | exact Below.refl _ _ | assumption | refine bExt ?_ _ | refine bAlloc ?_ _ | refine bDrewN ?_ _ | refine bDrew ?_ | refine bSet ?_ (by first | exact Nat.le_refl _ | omega | (simp; done) | (simp; omega)) _))⟩
  · have hlt0 : ¬ left - n < 0 := by omega
    go_enter Tryz.func20, Tryz.ntmps20
    go_wp2
    go_loopw [1, 5] (fun t i wr => ∃ (k : Nat) (y : World), k ≤ n ∧ i = .int .i64 k ∧ t = .int .i64 (left - n - wtS itW (l.take k)) ∧ wtS itW (l.take k) ≤ left - n ∧ wr = ext w y) (fun _ i _ => n - (intOf i).toNat)
    case atStart => exact ⟨0, _, by omega, rfl, by simp [wtS], by simp [wtS]; omega, ext_self w⟩
    case round =>
      obtain ⟨k, y, hk, rfl, rfl, hle, rfl⟩ := hrel
      by_cases hlt : k < n
      · obtain ⟨b, off, NA, nn, nc, MA, mn, mc, rfl, hb, hc0, hc1, hc2, hN, hM, hnc, hmc⟩ := ha.at_ k hlt
        have hsk := hsz _ (getD_mem zIt l k (by rw [Hl.out]; exact hlt))
        have HS := Lib.hid (wtS_succ itW zIt l k (by rw [Hl.out]; exact hlt))
        have HM := Lib.hid (wtS_mono itW_pos l (k + 1))
        have h0 := wtS_nonneg itW_pos (l.take k)
        have hp := itW_pos (l[k]?.getD zIt)
        have hn9 : nn ≤ 9223372036854775807 := by have := hnc; simp only [maxLen] at this; omega
        have hm9 : mn ≤ 9223372036854775807 := by have := hmc; simp only [maxLen] at this; omega
        generalize l[k]?.getD zIt = x at *
        generalize hsk0 : wtS itW (l.take k) = S at *
        clear hsk0
        have cz := fun W (h : Below w.heap.size w W) => szItem_any W NA MA nn nc mn mc x (left - n - S) (by omega) (by omega) (hN.below h) (hM.below h) hn9 hm9 hsk
        clear hN hM hnc hmc
        generalize itW x = m at *
        by_cases hneg : left - n - S < m
        · have Hgt : Hid (left < itTotal l) := by
            have h1 := HS.out
            have h2 := HM.out
            show left < itTotal l
            rw [hT.out]; omega
          have hz : szW (left - n - S) m = -1 := by rw [szW, if_pos hneg]
          rw [hz] at cz
          go_wp2_with (first | (go_at_call 47; ((with_reducible refine (cz _ (by repeat (first | exact Below.refl _ _ | assumption | refine bExt ?_ _ | refine bAlloc ?_ _ | refine bDrewN ?_ _ | refine bDrew ?_ | refine bSet ?_ (by first | exact Nat.le_refl _ | omega | (simp; done) | (simp; omega)) _))).mono ?_); rintro e w' ⟨rfl, y2, rfl⟩)))
          go_ret
          exact ⟨ret_int (by rw [szW, if_pos Hgt.out]), ext_ex (by repeat (first | exact Below.refl _ _ | assumption | refine bExt ?_ _ | refine bAlloc ?_ _ | refine bDrewN ?_ _ | refine bDrew ?_ | refine bSet ?_ (by first | exact Nat.le_refl _ | omega | (simp; done) | (simp; omega)) _))⟩
        · have hz : szW (left - n - S) m = left - n - S - m := by rw [szW, if_neg hneg]
          have hnn : ¬ left - n - S - m < 0 := by omega
          rw [hz] at cz
          go_wp2_with (first | (go_at_call 47; ((with_reducible refine (cz _ (by repeat (first | exact Below.refl _ _ | assumption | refine bExt ?_ _ | refine bAlloc ?_ _ | refine bDrewN ?_ _ | refine bDrew ?_ | refine bSet ?_ (by first | exact Nat.le_refl _ | omega | (simp; done) | (simp; omega)) _))).mono ?_); rintro e w' ⟨rfl, y2, rfl⟩)))
          go_roundw
          case rel => exact ⟨k + 1, _, by omega, by go_num, congrArg (Value.int .i64) (by rw [HS.out]; omega), by rw [HS.out]; omega, (ext_ex (by repeat (first | exact Below.refl _ _ | assumption | refine bExt ?_ _ | refine bAlloc ?_ _ | refine bDrewN ?_ _ | refine bDrew ?_ | refine bSet ?_ (by first | exact Nat.le_refl _ | omega | (simp; done) | (simp; omega)) _))).choose_spec⟩
          case measure => simp [intOf]; omega
      · have Hk := Lib.hid (show l.take k = l from List.take_of_length_le (by rw [Hl.out]; omega))
        rw [Hk.out] at hle
        go_wp2
        go_ret
        exact ⟨ret_int (by rw [szW, if_neg (by rw [hT.out]; omega), hT.out, Hk.out]; omega), ext_ex (by repeat (first | exact Below.refl _ _ | assumption | refine bExt ?_ _ | refine bAlloc ?_ _ | refine bDrewN ?_ _ | refine bDrew ?_ | refine bSet ?_ (by first | exact Nat.le_refl _ | omega | (simp; done) | (simp; omega)) _))⟩
theorem OwI.setLow {base n c g k : Nat} {w : World} {A : Option Addr} {l : List Int} {v : Value} (h : OwI base w A n c l) (hg : g < base) : OwI base (w.setCell ⟨g, k, none⟩ v) A n c l := by
  refine h.kept (gSetM w g k v) ?_
  cases hA : blkOf A with
  | none => exact .inl rfl
  | some z => exact .inr fun e => by have := (h.blk hA).1; injection e with e; omega
theorem OwT.setLow {base n c g k : Nat} {w : World} {A : Option Addr} {l : List ByteArray} {v : Value} (h : OwT base w A n c l) (hg : g < base) : OwT base (w.setCell ⟨g, k, none⟩ v) A n c l := by
  refine h.kept (gSetM w g k v) ?_
  cases hA : blkOf A with
  | none => exact .inl rfl
  | some z => exact .inr fun e => by have := (h.blk hA).1; injection e with e; omega
def RetItem (w : World) (it : It) (e : Ending) (w' : World) : Prop := ∃ NA nn nc MA mn mc x, e = .returned (.agg #[.slice NA nn nc, .slice MA mn mc, .bool it.2.2]) ∧ w' = ext w x ∧ OwT w.heap.size (ext w x) NA nn nc it.1 ∧ OwI w.heap.size (ext w x) MA mn mc it.2.1
theorem RetItem.mk_ {w W : World} {b1 b2 nn nc mn mc : Nat} {NA MA : Option Addr} {names : List ByteArray} {marks : List Int} {late : Bool} (oN : OwT b1 W NA nn nc names) (oM : OwI b2 W MA mn mc marks) (h1 : w.heap.size ≤ b1) (h2 : w.heap.size ≤ b2) (hb : Below w.heap.size w W) : RetItem w (names, marks, late) (.returned (.agg #[.slice NA nn nc, .slice MA mn mc, .bool late])) W := by
  obtain ⟨x, rfl⟩ := ext_ex hb
  exact ⟨NA, nn, nc, MA, mn, mc, x, rfl, rfl, oN.mono h1, oM.mono h2⟩
set_option maxHeartbeats 2000000 in
theorem toItem_any (w : World) (NA MA : Option Addr) (nn nc mn mc : Nat) (names : List ByteArray) (marks : List Int) (late : Bool) (hN : RdT w NA nn names) (hM : RdI w MA mn marks) (hn : nn ≤ 1099511627776) (hm : mn ≤ 1099511627776) :
    Calls Tryz.prog 57 #[.agg #[.slice NA nn nc, .slice MA mn mc, .bool late]] w (RetItem w (names, marks, late)) := by
  have c1 := fun W (h : Below w.heap.size w W) => toStringS_any W NA nn nc names (hN.below h) hn
  have c2 := fun W (h : Below w.heap.size w W) => toIntS_any W MA mn mc marks (hM.below h) hm
  clear hN hM
  go_enter Tryz.func57, Tryz.ntmps57
  go_wp2_with (first | (go_at_call 87; ((with_reducible refine (c1 _ (by repeat (first | exact Below.refl _ _ | assumption | refine bExt ?_ _ | refine bAlloc ?_ _ | refine bDrewN ?_ _ | refine bDrew ?_ | refine bSet ?_ (by first | exact Nat.le_refl _ | omega | (simp; done) | (simp; omega)) _))).mono ?_); rintro e w' ⟨A1, n1, k1, x1, rfl, rfl, o1⟩)) | (go_at_call 26; ((with_reducible refine (c2 _ (by repeat (first | exact Below.refl _ _ | assumption | refine bExt ?_ _ | refine bAlloc ?_ _ | refine bDrewN ?_ _ | refine bDrew ?_ | refine bSet ?_ (by first | exact Nat.le_refl _ | omega | (simp; done) | (simp; omega)) _))).mono ?_); rintro e w' ⟨A2, n2, k2, x2, rfl, rfl, o2⟩)))
  refine bodyPost_ret (v := .agg #[.slice A1 n1 k1, .slice A2 n2 k2, .bool late]) (by simp [results, Tryz.results57, go_sem]) rfl ?_
  have sb : (((w.alloc (.cells #[.slice NA nn nc, .slice MA mn mc, .bool late] 79)).alloc (.cells #[.slice none 0 0, .slice none 0 0, .bool false] 87)).alloc (.cells #[.slice none 0 0, .slice none 0 0, .bool false] 87)).heap.size = w.heap.size + 3 := by simp [go_sem]
  have hwb : Below w.heap.size w (((w.alloc (.cells #[.slice NA nn nc, .slice MA mn mc, .bool late] 79)).alloc (.cells #[.slice none 0 0, .slice none 0 0, .bool false] 87)).alloc (.cells #[.slice none 0 0, .slice none 0 0, .bool false] 87)) := by repeat (first | exact Below.refl _ _ | assumption | refine bExt ?_ _ | refine bAlloc ?_ _ | refine bDrewN ?_ _ | refine bDrew ?_ | refine bSet ?_ (by first | exact Nat.le_refl _ | omega | (simp; done) | (simp; omega)) _)
  generalize (((w.alloc (.cells #[.slice NA nn nc, .slice MA mn mc, .bool late] 79)).alloc (.cells #[.slice none 0 0, .slice none 0 0, .bool false] 87)).alloc (.cells #[.slice none 0 0, .slice none 0 0, .bool false] 87)) = Wb at *
  have hsz : Wb.heap.size ≤ (ext Wb x1).heap.size := ext_le Wb x1
  have s1 : ∀ (W : World) (a : Addr) (v : Value), (W.setCell a v).heap.size = W.heap.size := fun W a v => by simp [World.setCell]
  rw [s1] at o2
  have q1 := ((((((o1.setLow (g := w.heap.size + 1 + 1) (k := 0) (v := .slice A1 n1 k1) (by omega)).below (ext_below _ x2)).setLow (g := w.heap.size + 1 + 1) (k := 1) (v := .slice A2 n2 k2) (by omega)).setLow (g := w.heap.size + 1 + 1) (k := 2) (v := .bool late) (by omega)).setLow (g := w.heap.size + 1) (k := 0) (v := .slice A1 n1 k1) (by omega)).setLow (g := w.heap.size + 1) (k := 1) (v := .slice A2 n2 k2) (by omega)).setLow (g := w.heap.size + 1) (k := 2) (v := .bool late) (by omega)
  have q2 := ((((o2.setLow (g := w.heap.size + 1 + 1) (k := 1) (v := .slice A2 n2 k2) (by omega)).setLow (g := w.heap.size + 1 + 1) (k := 2) (v := .bool late) (by omega)).setLow (g := w.heap.size + 1) (k := 0) (v := .slice A1 n1 k1) (by omega)).setLow (g := w.heap.size + 1) (k := 1) (v := .slice A2 n2 k2) (by omega)).setLow (g := w.heap.size + 1) (k := 2) (v := .bool late) (by omega)
  have hbf : Below w.heap.size w ((((((ext ((ext Wb x1).setCell ⟨w.heap.size + 1 + 1, 0, none⟩ (.slice A1 n1 k1)) x2).setCell ⟨w.heap.size + 1 + 1, 1, none⟩ (.slice A2 n2 k2)).setCell ⟨w.heap.size + 1 + 1, 2, none⟩ (.bool late)).setCell ⟨w.heap.size + 1, 0, none⟩ (.slice A1 n1 k1)).setCell ⟨w.heap.size + 1, 1, none⟩ (.slice A2 n2 k2)).setCell ⟨w.heap.size + 1, 2, none⟩ (.bool late)) := bSet (bSet (bSet (bSet (bSet (bExt (bSet (bExt hwb x1) (by show w.heap.size ≤ w.heap.size + 1 + 1; omega) _) x2) (by show w.heap.size ≤ w.heap.size + 1 + 1; omega) _) (by show w.heap.size ≤ w.heap.size + 1 + 1; omega) _) (by show w.heap.size ≤ w.heap.size + 1; omega) _) (by show w.heap.size ≤ w.heap.size + 1; omega) _) (by show w.heap.size ≤ w.heap.size + 1; omega) _
  obtain ⟨z, hz⟩ := ext_ex hbf
  rw [hz] at q1 q2
  exact ⟨A1, n1, k1, A2, n2, k2, z, rfl, hz, q1.mono (by omega), q2.mono (by omega)⟩
theorem Item_info : (Tryz.prog.info? 87).map (fun i => (i.zero, i.size, i.bytes)) = some (some (.agg #[.slice none 0 0, .slice none 0 0, .bool false]), 3, 56) := by kernel_rfl
abbrev C3 := Value × Value × Value
def nil3 : C3 := (.slice none 0 0, .slice none 0 0, .bool false)
def cells3 (l : List C3) : List Value := l.flatMap fun p => [p.1, p.2.1, p.2.2]
theorem cells3_cons (a : C3) (r : List C3) : cells3 (a :: r) = a.1 :: a.2.1 :: a.2.2 :: cells3 r := by simp [cells3]
theorem cells3_len (l : List C3) : (cells3 l).length = l.length * 3 := by
  induction l with
  | nil => rfl
  | cons a r ih => rw [cells3_cons]; simp only [List.length_cons, ih]; omega
theorem cells3_get (l : List C3) (k : Nat) (h : k < l.length) : (cells3 l)[k * 3]? = some (l[k]?.getD nil3).1 ∧ (cells3 l)[k * 3 + 1]? = some (l[k]?.getD nil3).2.1 ∧ (cells3 l)[k * 3 + 2]? = some (l[k]?.getD nil3).2.2 := by
  induction l generalizing k with
  | nil => simp at h
  | cons a r ih =>
    rw [cells3_cons]
    cases k with
    | zero => simp
    | succ k =>
      have := ih k (by simpa using h)
      rw [show (k + 1) * 3 = k * 3 + 1 + 1 + 1 by omega, show k * 3 + 1 + 1 + 1 + 1 = (k * 3 + 1) + 1 + 1 + 1 by omega, show k * 3 + 1 + 1 + 1 + 2 = (k * 3 + 2) + 1 + 1 + 1 by omega]
      simpa only [List.getElem?_cons_succ] using this
theorem cells3_set (m : List C3) (k : Nat) (x : C3) (h : k < m.length) : (((cells3 m).set (k * 3) x.1).set (k * 3 + 1) x.2.1).set (k * 3 + 2) x.2.2 = cells3 (m.set k x) := by
  induction m generalizing k with
  | nil => simp at h
  | cons p r ih =>
    rw [cells3_cons]
    cases k with
    | zero => simp [cells3_cons]
    | succ k =>
      rw [show (k + 1) * 3 = k * 3 + 1 + 1 + 1 by omega, show k * 3 + 1 + 1 + 1 + 1 = (k * 3 + 1) + 1 + 1 + 1 by omega, show k * 3 + 1 + 1 + 1 + 2 = (k * 3 + 2) + 1 + 1 + 1 by omega]
      simp only [List.set_cons_succ]
      rw [ih k (by simpa using h), cells3_cons]
theorem items_made (n : Nat) : (madeCells (Value.agg #[.slice none 0 0, .slice none 0 0, .bool false]).cells (n * 3)).toList = cells3 (List.replicate n nil3) := by
  apply List.ext_getElem?
  intro i
  by_cases h : i < n * 3
  · have hk : i / 3 < (List.replicate n nil3).length := by simp; omega
    have g := cells3_get (List.replicate n nil3) (i / 3) hk
    have e0 : (List.replicate n nil3)[i / 3]?.getD nil3 = nil3 := by
      rw [List.getElem?_replicate]; split <;> rfl
    rw [e0] at g
    have h2 : i % 3 = 0 ∨ i % 3 = 1 ∨ i % 3 = 2 := by omega
    rcases h2 with h2 | h2 | h2
    · have e : i = i / 3 * 3 := by omega
      have : (cells3 (List.replicate n nil3))[i]? = some nil3.1 := by rw [e]; exact g.1
      rw [this]; simp [madeCells, h, Value.cells, h2, nil3]
    · have e : i = i / 3 * 3 + 1 := by omega
      have : (cells3 (List.replicate n nil3))[i]? = some nil3.2.1 := by rw [e]; exact g.2.1
      rw [this]; simp [madeCells, h, Value.cells, h2, nil3]
    · have e : i = i / 3 * 3 + 2 := by omega
      have : (cells3 (List.replicate n nil3))[i]? = some nil3.2.2 := by rw [e]; exact g.2.2
      rw [this]; simp [madeCells, h, Value.cells, h2, nil3]
  · have : (cells3 (List.replicate n nil3))[i]? = none := List.getElem?_eq_none (by rw [cells3_len]; simp; omega)
    rw [this]; simp [madeCells, h]
/-- The three cells of an item, what they point to in memory from b on. -/
def ItAt (b : Nat) (w : World) (c : C3) (it : It) : Prop := ∃ NA nn nc MA mn mc, c = (.slice NA nn nc, .slice MA mn mc, .bool it.2.2) ∧ OwT b w NA nn nc it.1 ∧ OwI b w MA mn mc it.2.1
theorem ItAt.below {b : Nat} {w w' : World} {c : C3} {it : It} (h : ItAt b w c it) (hb : Below w.heap.size w w') : ItAt b w' c it := by
  obtain ⟨NA, nn, nc, MA, mn, mc, e, h1, h2⟩ := h
  exact ⟨NA, nn, nc, MA, mn, mc, e, h1.below hb, h2.below hb⟩
theorem ItAt.setLow {b g k : Nat} {w : World} {c : C3} {it : It} {v : Value} (h : ItAt b w c it) (hg : g < b) : ItAt b (w.setCell ⟨g, k, none⟩ v) c it := by
  obtain ⟨NA, nn, nc, MA, mn, mc, e, h1, h2⟩ := h
  exact ⟨NA, nn, nc, MA, mn, mc, e, h1.setLow hg, h2.setLow hg⟩
/-- The first k items of a row in the making lie there. -/
def MkIt (w : World) (g n k : Nat) (l : List It) : Prop := ∃ C : List C3, C.length = n ∧ Ow 87 3 g w (some ⟨g, 0, none⟩) n n (cells3 C) ∧ ∀ j, j < k → ItAt (g + 1) w (C[j]?.getD nil3) (l[j]?.getD zIt)
theorem MkIt.below {w w' : World} {g n k : Nat} {l : List It} (h : MkIt w g n k l) (hb : Below w.heap.size w w') : MkIt w' g n k l := by
  obtain ⟨C, hC, ho, hi⟩ := h
  exact ⟨C, hC, ho.below hb, fun j hj => (hi j hj).below hb⟩
theorem MkIt.cells {w : World} {g n k : Nat} {l : List It} (h : MkIt w g n k l) (hk : k < n) : ∃ u0 u1 u2, (w.cell? ⟨g, k * 3, none⟩ = some u0 ∧ w.cell? ⟨g, k * 3 + 1, none⟩ = some u1 ∧ w.cell? ⟨g, k * 3 + 2, none⟩ = some u2) ∧ ∀ j, w.frozen? ⟨g, j, none⟩ = false := by
  obtain ⟨C, hC, ho, hi⟩ := h
  obtain ⟨g0, g1, g2⟩ := cells3_get C k (by omega)
  exact ⟨(C[k]?.getD nil3).1, (C[k]?.getD nil3).2.1, (C[k]?.getD nil3).2.2, ⟨(Ow.cell_ ho _ (by omega)).trans g0, (Ow.cell_ ho _ (by omega)).trans g1, (Ow.cell_ ho _ (by omega)).trans g2⟩, fun j => Ow.frozen_ ho j⟩
theorem MkIt.put {w : World} {g n k : Nat} {l : List It} {c : C3} (h : MkIt w g n k l) (hk : k < n) (hi : ItAt (g + 1) w c (l[k]?.getD zIt)) :
    MkIt (((w.setCell ⟨g, k * 3, none⟩ c.1).setCell ⟨g, k * 3 + 1, none⟩ c.2.1).setCell ⟨g, k * 3 + 2, none⟩ c.2.2) g n (k + 1) l := by
  obtain ⟨C, hC, ho, hI⟩ := h
  have h1 := Ow.stored_ ho (k * 3) c.1
  have h2 := Ow.stored_ h1.1 (k * 3 + 1) c.2.1
  have h3 := Ow.stored_ h2.1 (k * 3 + 2) c.2.2
  rw [cells3_set _ _ _ (by omega)] at h3
  refine ⟨C.set k c, by simpa using hC, h3.1, fun j hj => ?_⟩
  have hg : g < g + 1 := by omega
  by_cases e : j = k
  · subst e
    have : (C.set j c)[j]?.getD nil3 = c := by simp [hC, hk]
    rw [this]
    exact ((hi.setLow hg).setLow hg).setLow hg
  · have : (C.set k c)[j]?.getD nil3 = C[j]?.getD nil3 := by rw [List.getElem?_set_ne (fun h => e h.symm)]
    rw [this]
    exact (((hI j (by omega)).setLow hg).setLow hg).setLow hg
theorem MkIt.rd {w : World} {g n : Nat} {l : List It} (h : MkIt w g n n l) (hl : l.length = n) (hg : g < w.heap.size) : RdIt w (some ⟨g, 0, none⟩) n l := by
  obtain ⟨C, hC, ho, hI⟩ := h
  refine ⟨hl, fun hn => ⟨g, 0, rfl, hg, fun j hj => ?_⟩⟩
  obtain ⟨NA, nn, nc, MA, mn, mc, e, o1, o2⟩ := hI j hj
  obtain ⟨g0, g1, g2⟩ := cells3_get C j (by omega)
  rw [e] at g0 g1 g2
  refine ⟨NA, nn, nc, MA, mn, mc, ?_, ?_, ?_, o1.rd, o2.rd, o1.cap_, o2.cap_⟩
  · rw [Nat.zero_add, Ow.cell_ ho _ (by omega)]; exact g0
  · rw [Nat.zero_add, Ow.cell_ ho _ (by omega)]; exact g1
  · rw [Nat.zero_add, Ow.cell_ ho _ (by omega)]; exact g2
theorem MkIt.setLow {w : World} {r n m g k : Nat} {l : List It} {v : Value} (o : MkIt w r n m l) (hg : g < r) : MkIt (w.setCell ⟨g, k, none⟩ v) r n m l := by
  obtain ⟨C, hC, ho, hI⟩ := o
  exact ⟨C, hC, ho.kept (gSetM w g k v) (.inr fun e => by have e : r = g := Option.some.inj e; omega), fun i hi => (hI i hi).setLow (by omega)⟩
/-- A row of items in new memory. -/
def RetIt (w : World) (l : List It) (e : Ending) (w' : World) : Prop := ∃ g n x, e = .returned (.slice (some ⟨g, 0, none⟩) n n) ∧ w' = ext w x ∧ MkIt (ext w x) g n n l ∧ w.heap.size ≤ g ∧ g < (ext w x).heap.size ∧ l.length = n
set_option maxHeartbeats 4000000 in
theorem toItemS_any (w : World) (A : Option Addr) (n c : Nat) (l : List It) (ha : RdIt w A n l) (hn : n ≤ 1099511627776) (hs : ∀ x ∈ l, itSmall x) :
    Calls Tryz.prog 27 #[.slice A n c] w (RetIt w l) := by
  obtain ⟨i0, hi0, hz0, hz1, hz2⟩ := info_parts Item_info
  have Hl := Lib.hid ha.len
  go_enter Tryz.func27, Tryz.ntmps27
  go_wp2_with (at_make; refine wpList_make_full w rfl _ _ _ rfl w.heap.size 87 i0 _ 3 Tryz.underlying42 hi0 hz0 hz1 .i64 .i64 _ _ n rfl rfl rfl rfl (by rw [hz2]; omega) (by simp only [maxLen]; omega) (Nat.le_refl _) ?_; intro w1 hown1 hg1)
  have hb1 : Below w.heap.size w w1 := below_grown (Below.refl _ _) hg1 (by simp)
  rw [items_made] at hown1
  have o1 : MkIt w1 w.heap.size n 0 l := ⟨List.replicate n nil3, by simp, hown1, fun j hj => by omega⟩
  have hgz : w.heap.size < w1.heap.size := (Ow.blk hown1 (g := w.heap.size) rfl).2
  clear hown1 hg1
  obtain ⟨x1, rfl⟩ := ext_ex hb1
  go_loopw [4] (fun i wr => ∃ (k : Nat) (x : World), k ≤ n ∧ i = .int .i64 k ∧ wr = ext w x ∧ MkIt (ext w x) w.heap.size n k l ∧ w.heap.size < (ext w x).heap.size) (fun i _ => n - (intOf i).toNat)
  case atStart => exact ⟨0, x1, by omega, rfl, rfl, o1, hgz⟩
  case round =>
    obtain ⟨k, x, hk, rfl, rfl, ho, hg⟩ := hrel
    by_cases hlt : k < n
    · obtain ⟨b, off, NA, nn, nc, MA, mn, mc, rfl, hb, hc0, hc1, hc2, hN, hM, _, _⟩ := ha.at_ k hlt
      obtain ⟨z1, z2, z3⟩ := hs _ (getD_mem zIt l k (by rw [Hl.out]; exact hlt))
      have hnn : nn ≤ 1099511627776 := by rw [← hN.len]; exact z1
      have hmn : mn ≤ 1099511627776 := by rw [← hM.len]; exact z2
      have ct := fun W (h : Below w.heap.size w W) => toItem_any W NA MA nn nc mn mc (l[k]?.getD zIt).1 (l[k]?.getD zIt).2.1 (l[k]?.getD zIt).2.2 (hN.below h) (hM.below h) hnn hmn
      have hp := fun (W : World) (c : C3) (h : MkIt W w.heap.size n k l) (hi : ItAt (w.heap.size + 1) W c (l[k]?.getD zIt)) => h.put hlt hi
      clear hN hM z1 z2 z3
      generalize l[k]?.getD zIt = it at *
      obtain ⟨names, marks, late⟩ := it
      simp only at ct hc2
      go_wp2_with (go_at_call 57; ((with_reducible refine (ct _ (by repeat (first | exact Below.refl _ _ | assumption | refine bExt ?_ _ | refine bAlloc ?_ _ | refine bDrewN ?_ _ | refine bDrew ?_ | refine bSet ?_ (by first | exact Nat.le_refl _ | omega | (simp; done) | (simp; omega)) _))).mono ?_); rintro e w' ⟨A1, n1, k1, A2, n2, k2, y, rfl, rfl, o1, o2⟩; have ho2 := ho.below (ext_below _ y); obtain ⟨u0, u1, u2, ⟨hcc0, hcc1, hcc2⟩, hff⟩ := ho2.cells hlt; have hff0 := hff (k * 3); have hff1 := hff (k * 3 + 1); have hff2 := hff (k * 3 + 2); clear hff))
      have hst := hp _ (.slice A1 n1 k1, .slice A2 n2 k2, .bool late) ho2 ⟨A1, n1, k1, A2, n2, k2, rfl, o1.mono (by omega), o2.mono (by omega)⟩
      simp only at hst
      have hbn : Below w.heap.size w ((((ext (ext w x) y).setCell ⟨w.heap.size, k * 3, none⟩ (.slice A1 n1 k1)).setCell ⟨w.heap.size, k * 3 + 1, none⟩ (.slice A2 n2 k2)).setCell ⟨w.heap.size, k * 3 + 2, none⟩ (.bool late)) := bSet (bSet (bSet (bExt (ext_below w x) y) (Nat.le_refl _) _) (Nat.le_refl _) _) (Nat.le_refl _) _
      have hgn : w.heap.size < ((((ext (ext w x) y).setCell ⟨w.heap.size, k * 3, none⟩ (.slice A1 n1 k1)).setCell ⟨w.heap.size, k * 3 + 1, none⟩ (.slice A2 n2 k2)).setCell ⟨w.heap.size, k * 3 + 2, none⟩ (.bool late)).heap.size := by
        have := ext_le (ext w x) y
        simp only [World.setCell, Array.size_modify]; omega
      obtain ⟨z, hz⟩ := ext_ex hbn
      go_roundw
      case rel => exact ⟨k + 1, z, by omega, by go_num, hz, by rw [← hz]; exact hst, by rw [← hz]; exact hgn⟩
      case measure => simp [intOf]; omega
    · have hkn := Lib.hid (show k = n by omega)
      rw [hkn.out] at ho
      go_wp2
      go_ret
      exact ⟨_, n, x, rfl, rfl, ho, Nat.le_refl _, hg, Hl.out⟩
theorem eqItem_any (w : World) (NA MA : Option Addr) (nn nc mn mc : Nat) (NB MB : Option Addr) (nn' nc' mn' mc' : Nat) (names : List ByteArray) (marks : List Int) (late : Bool) (hN : RdT w NA nn names) (hM : RdI w MA mn marks) (hN' : RdT w NB nn' names) (hM' : RdI w MB mn' marks) (hn : nn ≤ 1099511627776) (hm : mn ≤ 1099511627776) :
    Calls Tryz.prog 67 #[.agg #[.slice NA nn nc, .slice MA mn mc, .bool late], .agg #[.slice NB nn' nc', .slice MB mn' mc', .bool late]] w fun e w' => e = .returned (.bool true) ∧ ∃ y, w' = ext w y := by
  have c1 := fun W (h : Below w.heap.size w W) => eqStringS_any W NA NB nn nn' nc nc' names (hN.below h) (hN'.below h) hn
  have c2 := fun W (h : Below w.heap.size w W) => eqIntS_any W MA MB mn mn' mc mc' marks marks (hM.below h) (hM'.below h) hm
  have hbe : (marks == marks) = true := by simp
  simp only [hbe] at c2
  clear hN hM hN' hM'
  go_enter Tryz.func67, Tryz.ntmps67
  go_wp2_with (first | (go_at_call 99; ((with_reducible refine (c1 _ (by repeat (first | exact Below.refl _ _ | assumption | refine bExt ?_ _ | refine bAlloc ?_ _ | refine bDrewN ?_ _ | refine bDrew ?_ | refine bSet ?_ (by first | exact Nat.le_refl _ | omega | (simp; done) | (simp; omega)) _))).mono ?_); rintro e w' ⟨rfl, y1, rfl⟩)) | (go_at_call 34; ((with_reducible refine (c2 _ (by repeat (first | exact Below.refl _ _ | assumption | refine bExt ?_ _ | refine bAlloc ?_ _ | refine bDrewN ?_ _ | refine bDrew ?_ | refine bSet ?_ (by first | exact Nat.le_refl _ | omega | (simp; done) | (simp; omega)) _))).mono ?_); rintro e w' ⟨rfl, y2, rfl⟩)))
  go_ret
  exact ⟨rfl, ext_ex (by repeat (first | exact Below.refl _ _ | assumption | refine bExt ?_ _ | refine bAlloc ?_ _ | refine bDrewN ?_ _ | refine bDrew ?_ | refine bSet ?_ (by first | exact Nat.le_refl _ | omega | (simp; done) | (simp; omega)) _))⟩
set_option maxHeartbeats 1000000 in
theorem eqItemS_any (w : World) (A B : Option Addr) (n m c d : Nat) (l : List It) (ha : RdIt w A n l) (hb : RdIt w B m l) (hn : n ≤ 1099511627776) (hs : ∀ x ∈ l, itSmall x) :
    Calls Tryz.prog 35 #[.slice A n c, .slice B m d] w fun e w' => e = .returned (.bool true) ∧ ∃ x, w' = ext w x := by
  obtain rfl : n = m := ha.len.symm.trans hb.len
  have Hl := Lib.hid ha.len
  go_enter Tryz.func35, Tryz.ntmps35
  go_wp2
  go_loopw [5] (fun i wr => ∃ k x, k ≤ n ∧ i = .int .i64 (k : Nat) ∧ wr = ext w x) (fun i _ => n - (intOf i).toNat)
  case atStart => exact ⟨0, _, Nat.zero_le _, rfl, ext_self w⟩
  case round =>
    obtain ⟨k, x, hk, rfl, rfl⟩ := hrel
    by_cases hlt : k < n
    · obtain ⟨b1, o1, NA, nn, nc, MA, mn, mc, rfl, hb1, hc0, hc1, hc2, hN, hM, _, _⟩ := ha.at_ k hlt
      obtain ⟨b2, o2, NB, nn', nc', MB, mn', mc', rfl, hb2, hd0, hd1, hd2, hN', hM', _, _⟩ := hb.at_ k hlt
      obtain ⟨z1, z2, z3⟩ := hs _ (getD_mem zIt l k (by rw [Hl.out]; exact hlt))
      have hnn : nn ≤ 1099511627776 := by rw [← hN.len]; exact z1
      have hmn : mn ≤ 1099511627776 := by rw [← hM.len]; exact z2
      have ce := fun W (h : Below w.heap.size w W) => eqItem_any W NA MA nn nc mn mc NB MB nn' nc' mn' mc' (l[k]?.getD zIt).1 (l[k]?.getD zIt).2.1 (l[k]?.getD zIt).2.2 (hN.below h) (hM.below h) (hN'.below h) (hM'.below h) hnn hmn
      clear hN hM hN' hM' z1 z2 z3
      go_wp2
      go_still_tail 8, (by kernel_rfl)
      change wpList _ _ _ _ _ (ext w x).drew
      go_wp2_with (go_at_call 67; ((with_reducible refine (ce _ (by repeat (first | exact Below.refl _ _ | assumption | refine bExt ?_ _ | refine bAlloc ?_ _ | refine bDrewN ?_ _ | refine bDrew ?_ | refine bSet ?_ (by first | exact Nat.le_refl _ | omega | (simp; done) | (simp; omega)) _))).mono ?_); rintro e w' ⟨rfl, y, rfl⟩))
      go_roundw
      case rel => exact ⟨k + 1, _, by omega, by go_num, (ext_ex (by repeat (first | exact Below.refl _ _ | assumption | refine bExt ?_ _ | refine bAlloc ?_ _ | refine bDrewN ?_ _ | refine bDrew ?_ | refine bSet ?_ (by first | exact Nat.le_refl _ | omega | (simp; done) | (simp; omega)) _))).choose_spec⟩
      case measure => simp [intOf]; omega
    · go_wp2
      go_ret
      exact ⟨rfl, _, rfl⟩
end Go.Proofs.YtfmidngndddfiaaGreatDoor
