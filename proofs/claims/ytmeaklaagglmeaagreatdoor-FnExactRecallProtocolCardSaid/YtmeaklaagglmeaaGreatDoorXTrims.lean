/- Trimmed sums, sorting with the greatest first, and the unit of an item; plain. Conditions: none. -/
import Derived.Test.YtmeaklaagglmeaaGreatDoorXSortP
import Derived.Test.YtmeaklaagglmeaaGreatDoorXBaseQ
import Derived.Test.YtmeaklaagglmeaaGreatDoorXSorts
import Derived.Test.YtmeaklaagglmeaaGreatDoorXBase4
import Derived.BigQuiet
import Derived.Test.YtmeaklaagglmeaaGreatDoorXMarksC
import Derived.Test.YtmeaklaagglmeaaGreatDoorXLawKit
import Derived.Test.YtmeaklaagglmeaaGreatDoorXCode4
set_option linter.unusedVariables false
set_option linter.unusedSimpArgs false
set_option maxRecDepth 100000
namespace Go.Proofs.YtmeaklaagglmeaaGreatDoor
def negL (l : List Int) : List Int := l.map fun x => -x
theorem negL_get (l : List Int) (j : Nat) : (negL l)[j]?.getD 0 = -(l[j]?.getD 0) := by
 unfold negL
 rw [List.getElem?_map]
 cases l[j]? <;> simp
theorem negL_neg (l : List Int) : negL (negL l) = l := by
 unfold negL
 rw [List.map_map]
 conv => rhs; rw [← List.map_id l]
 exact List.map_congr_left fun x _ => by simp
theorem negL_len (l : List Int) : (negL l).length = l.length := by simp [negL]
def desTo (l : List Int) (k : Nat) : List Int := negL (isortTo (negL l) k)
def insD (out : List Int) (x : Int) (m : Nat) : Nat := insK (negL out) (-x) m
theorem insD_step {out : List Int} {x : Int} {k : Nat} (h : out[k]?.getD 0 < x) : insD out x (k + 1) = insD out x k := by
 unfold insD; exact insK_step (by rw [negL_get]; omega)
theorem insD_stop {out : List Int} {x : Int} {k : Nat} (h : ¬ out[k]?.getD 0 < x) : insD out x (k + 1) = k + 1 := by
 unfold insD; exact insK_stop (by rw [negL_get]; omega)
theorem desTo_len (l : List Int) (k : Nat) (h : k ≤ l.length) : (desTo l k).length = k := by
 unfold desTo; rw [negL_len, isortTo_len _ _ (by rw [negL_len]; exact h)]
def insDL (out : List Int) (x : Int) : List Int := out.take (insD out x out.length) ++ [x] ++ out.drop (insD out x out.length)
theorem desTo_succ (l : List Int) (k : Nat) (h : k < l.length) : desTo l (k + 1) = insDL (desTo l k) (l[k]?.getD 0) := by
 unfold insDL
 have e := isortTo_succ (negL l) k (by rw [negL_len]; exact h)
 unfold desTo
 rw [e, insI, negL_get]
 unfold insD
 rw [negL_neg, negL_len]
 generalize isortTo (negL l) k = o
 generalize insK o (-(l[k]?.getD 0)) o.length = m
 simp [negL, List.map_take, List.map_drop]
theorem minNeg {l : List Int} (h : 0 < l.length) : Lib.minOf (negL l) = -Lib.maxOf l := by
 have h1 := maxOf_mem h
 have h2 := minOf_mem (l := negL l) (by rw [negL_len]; exact h)
 have a := h2.2 (-Lib.maxOf l) (List.mem_map.2 ⟨_, h1.1, rfl⟩)
 obtain ⟨y, hy, e⟩ := List.mem_map.1 h2.1
 have b := h1.2 y hy
 omega
theorem maxNeg {l : List Int} (h : 0 < l.length) : Lib.maxOf (negL l) = -Lib.minOf l := by
 have h1 := minOf_mem h
 have h2 := maxOf_mem (l := negL l) (by rw [negL_len]; exact h)
 have a := h2.2 (-Lib.minOf l) (List.mem_map.2 ⟨_, h1.1, rfl⟩)
 obtain ⟨y, hy, e⟩ := List.mem_map.1 h2.1
 have b := h1.2 y hy
 omega
theorem desTo_first {l : List Int} (h : 0 < l.length) : (desTo l l.length)[0]?.getD 0 = Lib.maxOf l := by
 unfold desTo
 have e := isort_eq (negL l)
 rw [negL_len] at e
 rw [negL_get, e, sortI_first (by rw [negL_len]; exact h), minNeg h]
 omega
theorem desTo_last {l : List Int} (h : 0 < l.length) : (desTo l l.length)[l.length - 1]?.getD 0 = Lib.minOf l := by
 unfold desTo
 have e := isort_eq (negL l)
 rw [negL_len] at e
 have e2 := sortI_last (l := negL l) (by rw [negL_len]; exact h)
 rw [negL_len] at e2
 rw [negL_get, e, e2, maxNeg h]
 omega
def trimS (l : List Int) : Int := if l.length < 5 then sumTo l l.length else sumTo l l.length - Lib.maxOf l - Lib.minOf l
def trimN (l : List Int) : Nat := if l.length < 5 then l.length else l.length - 2
theorem trimS_bd {l : List Int} {c : Int} (hc : 0 ≤ c) (h0 : 0 < l.length) (hl : l.length ≤ 9) (hb : ∀ x ∈ l, -c ≤ x ∧ x ≤ c) : -(c * 11) ≤ trimS l ∧ trimS l ≤ c * 11 := by
 have h1 := sumTo_bd hc hb l.length
 have m1 := hb _ (maxOf_mem h0).1
 have m2 := hb _ (minOf_mem h0).1
 have h3 : c * (l.length : Int) ≤ c * 9 := Int.mul_le_mul_of_nonneg_left (by omega) hc
 have h4 : c * 11 = c * 9 + c + c := by omega
 unfold trimS
 split <;> omega
theorem trimN_bd {l : List Int} (h0 : 3 ≤ l.length) (hl : l.length ≤ 9) : 3 ≤ trimN l ∧ trimN l ≤ 7 := by
 unfold trimN
 split <;> omega
theorem foldl_max0 {l : List Int} (h0 : 0 < l.length) (h : ∀ x ∈ l, 0 ≤ x) : l.foldl max 0 = Lib.maxOf l := by
 have h1 := foldl_max_spec l 0
 have h2 := maxOf_mem h0
 have a := h1.2.1 _ h2.1
 rcases h1.2.2 with e | e
 ·
  have := h _ h2.1; omega
 ·
  have := h2.2 _ e; omega
def uMost (els : List El) (keep : Int) (it : It) (k : Nat) : Int := (wTo els keep it k).foldl max 0
theorem uMost_succ (els : List El) (keep : Int) (it : It) (k : Nat) : uMost els keep it (k + 1) = max (uMost els keep it k) (wAt els keep (nmAt it k) (mkAt it k)) := by
 unfold uMost; rw [wTo_succ, List.foldl_append]; rfl
def unitV (els : List El) (keep : Int) (it : It) : Int := Lib.maxOf (wTo els keep it it.1.length)
theorem uMost_all {els : List El} {q0 q1 q2 : Int} {it : It} (hc : CodeG els q0 q1 q2) (hi : ItG els it) : uMost els q2 it it.1.length = unitV els q2 it := by
 unfold uMost unitV
 refine foldl_max0 (by rw [wTo_len]; exact hi.1.1) (fun x hx => ?_)
 exact (wTo_bd hc hi _ (Nat.le_refl _) x hx).1
theorem unit_bd {els : List El} {q0 q1 q2 : Int} {it : It} (hc : CodeG els q0 q1 q2) (hi : ItG els it) : 0 ≤ unitV els q2 it ∧ unitV els q2 it ≤ 2000 :=
 wTo_bd hc hi _ (Nat.le_refl _) _ (maxOf_mem (l := wTo els q2 it it.1.length) (by rw [wTo_len]; exact hi.1.1)).1
def GrG (g : List Int) : Prop := (3 ≤ g.length ∧ g.length ≤ 9) ∧ ∀ x ∈ g, -5 ≤ x ∧ x ≤ 5
def ptsV (els : List El) (q0 q1 q2 : Int) (its : List It) (k : Nat) (g : List Int) : Int :=
 if baseV els q0 q1 q2 its k = 0 then 0 else roundV (trimS g * unitV els q2 (its[k]?.getD zIt)) (10 * (trimN g : Int))
theorem pts_mul {els : List El} {q0 q1 q2 : Int} {it : It} {g : List Int} (hc : CodeG els q0 q1 q2) (hi : ItG els it) (hg : GrG g) : -110000 ≤ trimS g * unitV els q2 it ∧ trimS g * unitV els q2 it ≤ 110000 := by
 have h1 := trimS_bd (c := 5) (by omega) (by have := hg.1; omega) hg.1.2 hg.2
 have h2 := unit_bd hc hi
 have := mul_bd (A := 55) (B := 2000) (a := trimS g) (b := unitV els q2 it) (by omega) (by omega) h2.1 h2.2
 omega
theorem round_bd {a b A B : Int} (hb : 0 < b) (hB : b ≤ B) (h1 : -A ≤ a) (h2 : a ≤ A) (hA : 0 ≤ A) : -(2 * A + B) ≤ roundV a b ∧ roundV a b ≤ 2 * A + B := by
 unfold roundV
 exact down_bd (by omega) (by omega) (by omega) (by omega)
theorem pts_bd {els : List El} {q0 q1 q2 : Int} {its : List It} {k : Nat} {g : List Int} (hc : CodeG els q0 q1 q2) (hi : ItG els (its[k]?.getD zIt)) (hg : GrG g) : -220100 ≤ ptsV els q0 q1 q2 its k g ∧ ptsV els q0 q1 q2 its k g ≤ 220100 := by
 have h1 := pts_mul hc hi hg
 have h2 := trimN_bd hg.1.1 hg.1.2
 unfold ptsV
 split
 ·
  omega
 ·
  have := round_bd (A := 110000) (B := 100) (show 0 < 10 * (trimN g : Int) by omega) (by omega) h1.1 h1.2 (by omega)
  omega
end Go.Proofs.YtmeaklaagglmeaaGreatDoor
namespace Go.Proofs.YtmeaklaagglmeaaGreatDoor
open Go.Sort Go.RowKit
theorem grown_cellT {w w' : World} {row : Option Nat} (h : w.grownBy w' row) {b o : Nat} (hb : b < w.heap.size) (hne : some b ≠ row) : w'.cell? ⟨b, o, none⟩ = w.cell? ⟨b, o, none⟩ := by
 have := h.block b hb hne
 unfold World.cell?
 rw [this]
set_option maxHeartbeats 1000000 in
theorem poSorted_any (w : World) (A : Option Addr) (n c : Nat) (l : List Int) (ha : RdI w A n l) (hn : n < 1099511627776) :
  Calls Tryz.prog 296 #[.slice A n c] w (RetI w (desTo l n)) := by
 have Hl := Lib.hid ha.len
 go_enter Tryz.func296, Tryz.ntmps296
 go_wp2
 go_loopw [3, 9] (fun v i wr => ∃ (k : Nat) (B : Option Addr) (d : Nat) (x : World), k ≤ n ∧ i = .int .i64 k ∧ v = .slice B k d ∧ wr = ext w x ∧ OwI w.heap.size (ext w x) B k d (desTo l k) ∧ (k = 0 → B = none ∧ d = 0)) (fun _ i _ => n - (intOf i).toNat)
 case atStart => exact ⟨0, none, 0, _, by omega, rfl, rfl, ext_self w, OwI.nil_, fun _ => ⟨rfl, rfl⟩⟩
 case round =>
  obtain ⟨k, B, d, x, hk, rfl, rfl, rfl, ho, hz⟩ := hrel
  by_cases hlt : k < n
  ·
   obtain ⟨b, off, rfl, hb, hc⟩ := ha.open_ (by omega)
   have hck := hc k hlt
   rw [List.getD_eq_getElem?_getD] at hck
   clear hc
   have HS := desTo_succ l k (by rw [Hl.out]; exact hlt)
   have hol := desTo_len l k (by rw [Hl.out]; exact hk)
   generalize l[k]?.getD 0 = y at *
   generalize desTo l k = out at *
   have HS := Lib.hid HS
   have hrd := ho.rd
   by_cases hk0 : k = 0
   ·
    subst hk0
    rw [Nat.add_zero] at hck
    obtain ⟨rfl, rfl⟩ := hz rfl
    have hout : out = [] := List.eq_nil_of_length_eq_zero hol
    subst hout
    clear hz hol
    generalize hov : ([] : List Int) = out at *
    have hol : out.length = 0 := by rw [← hov]; rfl
    clear hov
    go_wp2
    go_loop [6] (fun t => t = .int .i64 0) (fun t => (intOf t).toNat)
    case atStart => rfl
    case round =>
     subst hrel
     have HI := Lib.hid (show desTo l (0 + 1) = out.take (0) ++ [y] ++ out.drop (0) by rw [HS.out, insDL, hol, show insD out y 0 = 0 from rfl])
     have hr1 := hrd.take_ (0) (by omega)
     have hr2 := hrd
     have htl : (out.take (0)).length = 0 := by rw [List.length_take]; omega
     have hjb : (0) ≤ 1099511627776 := by omega
     have o0a := OwI.lit_ (Below.refl _ (ext w x)) [] (by simp [maxLen]) #[] rfl
     have o0b : OwI (ext w x).heap.size (((ext w x).alloc (.cells #[.int .i64 y] 3)).alloc (.cells #[] 3)) (some ⟨(ext w x).heap.size + 1, 0, none⟩) 0 0 [] := by simpa using OwI.lit_ (bAlloc (Below.refl _ (ext w x)) (.cells #[.int .i64 y] 3)) [] (by simp [maxLen]) #[] rfl
     go_wp2
     go_region_law (first
      | (refine step_app_int (ext w x) rfl _ _ rfl _ _ _ [] rfl o0a ?_ ?_ _ _ _ (out.take (0)) rfl hr1 ?_ (by omega) ?_; exact bl; exact bl; exact bl; intro A1 c1 y1 o1 hg1 hd1; rw [Nat.zero_add] at o1)
      | (refine step_app_int (ext w x) rfl _ _ rfl _ _ _ [] rfl o0b ?_ ?_ _ _ _ (out.take (0)) rfl hr1 ?_ (by omega) ?_; exact bl; exact bl; exact bl; intro A1 c1 y1 o1 hg1 hd1; rw [Nat.zero_add] at o1)
      | (refine step_app_int (ext w x) rfl _ _ rfl A1 _ c1 ([] ++ out.take (0)) rfl o1 ?_ ?_ _ 1 1 [y] rfl (RdI.one_ ?_ ?_) (Below.refl _ _) (by omega) ?_; exact bl; exact bl; (focus (simp [go_sem]; done)); (focus (simp [go_sem]; done)); intro A2 c2 y2 o2 hg2 hd2)
      | (refine step_app_int (ext w x) rfl _ _ rfl A1 _ c1 ([] ++ out.take (0)) rfl o1 ?_ ?_ _ 1 1 [y] rfl (RdI.one_ ?_ ?_) (Below.refl _ _) (by omega) ?_; exact bl; exact bl; (focus (first | (simp; done) | (have := hg1.size; simp at this ⊢; omega))); (focus (rw [grown_cellT hg1 (by first | (simp; done) | (simp; omega)) (by simp [blkOf])]; simp [go_sem]; done)); intro A2 c2 y2 o2 hg2 hd2)
      | (refine step_app_int (ext w x) rfl _ _ rfl A2 _ c2 ([] ++ out.take (0) ++ [y]) rfl o2 ?_ ?_ _ _ _ (out.drop (0)) rfl hr2 ?_ (by omega) ?_; exact bl; exact bl; exact bl; intro A3 c3 y3 o3 hg3 hd3))
     all_goals
      go_wp2
      obtain ⟨q, hq⟩ := ext_ex (show Below w.heap.size w (ext (ext w x) y3) from bl)
      have o4 := o3.mono (ext_le w x)
      rw [List.nil_append, ← HI.out, hq] at o4
      have hln := o4.len.symm.trans (desTo_len l (0 + 1) (by rw [Hl.out]; omega))
      rw [hln] at o4
      have o5 := o4
      have Hln := Lib.hid hln
      clear hln
      clear o4 o3 hg3 hd3 hg2 hd2 hg1 hd1 o1 o2
      go_roundw
      case rel => exact ⟨0 + 1, A3, c3, q, by omega, by go_num, congrArg (fun z => Value.slice A3 z c3) (by have := Hln.out; omega), hq, o5, fun h => by omega⟩
      case measure => simp [intOf]; omega
   ·
    obtain ⟨g, rfl, hgb, hgl⟩ := ho.form_ (by omega)
    have hkd := ho.cap_.1
    clear hz
    go_wp2
    go_loop [6] (fun t => ∃ j : Nat, j ≤ k ∧ t = .int .i64 j ∧ Hid (insD out y k = insD out y j)) (fun t => (intOf t).toNat)
    case atStart => exact ⟨k, Nat.le_refl _, rfl, rfl⟩
    case round =>
     obtain ⟨j, hj, rfl, HK⟩ := hrel
     rcases Nat.eq_zero_or_pos j with hj0 | hj0
     ·
      subst hj0
      have HK0 := Lib.hid (show insD out y k = 0 from HK.out)
      have hd0 : ((0 : Nat) : Int) ≤ d := by omega
      have HI := Lib.hid (show desTo l (k + 1) = out.take (0) ++ [y] ++ out.drop (0) by rw [HS.out, insDL, hol, HK0.out])
      have hr1 := hrd.take_ (0) (by omega)
      have hr2 := hrd.drop_ (0) (by omega)
      have htl : (out.take (0)).length = 0 := by rw [List.length_take]; omega
      have hjb : (0) ≤ 1099511627776 := by omega
      have o0a := OwI.lit_ (Below.refl _ (ext w x)) [] (by simp [maxLen]) #[] rfl
      have o0b : OwI (ext w x).heap.size (((ext w x).alloc (.cells #[.int .i64 y] 3)).alloc (.cells #[] 3)) (some ⟨(ext w x).heap.size + 1, 0, none⟩) 0 0 [] := by simpa using OwI.lit_ (bAlloc (Below.refl _ (ext w x)) (.cells #[.int .i64 y] 3)) [] (by simp [maxLen]) #[] rfl
      go_wp2
      go_region_law (first
       | (refine step_app_int (ext w x) rfl _ _ rfl _ _ _ [] rfl o0a ?_ ?_ _ _ _ (out.take (0)) rfl hr1 ?_ (by omega) ?_; exact bl; exact bl; exact bl; intro A1 c1 y1 o1 hg1 hd1; rw [Nat.zero_add] at o1)
       | (refine step_app_int (ext w x) rfl _ _ rfl _ _ _ [] rfl o0b ?_ ?_ _ _ _ (out.take (0)) rfl hr1 ?_ (by omega) ?_; exact bl; exact bl; exact bl; intro A1 c1 y1 o1 hg1 hd1; rw [Nat.zero_add] at o1)
       | (refine step_app_int (ext w x) rfl _ _ rfl A1 _ c1 ([] ++ out.take (0)) rfl o1 ?_ ?_ _ 1 1 [y] rfl (RdI.one_ ?_ ?_) (Below.refl _ _) (by omega) ?_; exact bl; exact bl; (focus (simp [go_sem]; done)); (focus (simp [go_sem]; done)); intro A2 c2 y2 o2 hg2 hd2)
       | (refine step_app_int (ext w x) rfl _ _ rfl A1 _ c1 ([] ++ out.take (0)) rfl o1 ?_ ?_ _ 1 1 [y] rfl (RdI.one_ ?_ ?_) (Below.refl _ _) (by omega) ?_; exact bl; exact bl; (focus (first | (simp; done) | (have := hg1.size; simp at this ⊢; omega))); (focus (rw [grown_cellT hg1 (by first | (simp; done) | (simp; omega)) (by simp [blkOf])]; simp [go_sem]; done)); intro A2 c2 y2 o2 hg2 hd2)
       | (refine step_app_int (ext w x) rfl _ _ rfl A2 _ c2 ([] ++ out.take (0) ++ [y]) rfl o2 ?_ ?_ _ _ _ (out.drop (0)) rfl hr2 ?_ (by omega) ?_; exact bl; exact bl; exact bl; intro A3 c3 y3 o3 hg3 hd3))
      all_goals
       go_wp2
       obtain ⟨q, hq⟩ := ext_ex (show Below w.heap.size w (ext (ext w x) y3) from bl)
       have o4 := o3.mono (ext_le w x)
       rw [List.nil_append, ← HI.out, hq] at o4
       have hln := o4.len.symm.trans (desTo_len l (k + 1) (by rw [Hl.out]; omega))
       rw [hln] at o4
       have o5 := o4
       have Hln := Lib.hid hln
       clear hln
       clear o4 o3 hg3 hd3 hg2 hd2 hg1 hd1 o1 o2
       go_roundw
       case rel => exact ⟨k + 1, A3, c3, q, by omega, by go_num, congrArg (fun z => Value.slice A3 z c3) (by have := Hln.out; omega), hq, o5, fun h => by omega⟩
       case measure => simp [intOf]; omega
     ·
      obtain ⟨j, rfl⟩ : ∃ i, j = i + 1 := ⟨j - 1, by omega⟩
      have hcj := ho.cell_ j (by omega)
      obtain ⟨z, hz⟩ : ∃ z, out[j]?.getD 0 = z := ⟨_, rfl⟩
      rw [hz] at hcj
      have HZ := Lib.hid hz
      clear hz
      by_cases hlt2 : z < y
      ·
       have HKn := Lib.hid (show insD out y k = insD out y j by rw [HK.out, insD_step (by rw [HZ.out]; exact hlt2)])
       go_wp2
       go_round
       case rel => exact ⟨j, by omega, by go_num, HKn⟩
       case measure => simp [intOf]
      ·
       have HKn := Lib.hid (show insD out y k = j + 1 by rw [HK.out, insD_stop (by rw [HZ.out]; exact hlt2)])
       have hd1 : (j : Int) + 1 ≤ d := by omega
       have hj00 : (0 : Int) ≤ (j : Int) + 1 := by omega
       have hk1 : (j : Int) + 1 ≤ k := by omega
       by_cases hjd : d = j + 1
       ·
        have hjk : k = j + 1 := by omega
        subst hjk
        subst hjd
        have HI := Lib.hid (show desTo l (j + 1 + 1) = out.take (j + 1) ++ [y] ++ out.drop (j + 1) by rw [HS.out, insDL, hol, HKn.out])
        have hr1 := hrd.take_ (j + 1) (by omega)
        have hr2 : RdI (ext w x) (some ⟨g, 0, none⟩) 0 (out.drop (j + 1)) := by rw [List.drop_of_length_le (by omega)]; exact RdI.nil_
        have htl : (out.take (j + 1)).length = j + 1 := by rw [List.length_take]; omega
        have hjb : (j + 1) ≤ 1099511627776 := by omega
        have o0a := OwI.lit_ (Below.refl _ (ext w x)) [] (by simp [maxLen]) #[] rfl
        have o0b : OwI (ext w x).heap.size (((ext w x).alloc (.cells #[.int .i64 y] 3)).alloc (.cells #[] 3)) (some ⟨(ext w x).heap.size + 1, 0, none⟩) 0 0 [] := by simpa using OwI.lit_ (bAlloc (Below.refl _ (ext w x)) (.cells #[.int .i64 y] 3)) [] (by simp [maxLen]) #[] rfl
        go_wp2
        go_region_law (first
         | (refine step_app_int (ext w x) rfl _ _ rfl _ _ _ [] rfl o0a ?_ ?_ _ _ _ (out.take (j + 1)) rfl hr1 ?_ (by omega) ?_; exact bl; exact bl; exact bl; intro A1 c1 y1 o1 hg1 hd1; rw [Nat.zero_add] at o1)
         | (refine step_app_int (ext w x) rfl _ _ rfl _ _ _ [] rfl o0b ?_ ?_ _ _ _ (out.take (j + 1)) rfl hr1 ?_ (by omega) ?_; exact bl; exact bl; exact bl; intro A1 c1 y1 o1 hg1 hd1; rw [Nat.zero_add] at o1)
         | (refine step_app_int (ext w x) rfl _ _ rfl A1 _ c1 ([] ++ out.take (j + 1)) rfl o1 ?_ ?_ _ 1 1 [y] rfl (RdI.one_ ?_ ?_) (Below.refl _ _) (by omega) ?_; exact bl; exact bl; (focus (simp [go_sem]; done)); (focus (simp [go_sem]; done)); intro A2 c2 y2 o2 hg2 hd2)
         | (refine step_app_int (ext w x) rfl _ _ rfl A1 _ c1 ([] ++ out.take (j + 1)) rfl o1 ?_ ?_ _ 1 1 [y] rfl (RdI.one_ ?_ ?_) (Below.refl _ _) (by omega) ?_; exact bl; exact bl; (focus (first | (simp; done) | (have := hg1.size; simp at this ⊢; omega))); (focus (rw [grown_cellT hg1 (by first | (simp; done) | (simp; omega)) (by simp [blkOf])]; simp [go_sem]; done)); intro A2 c2 y2 o2 hg2 hd2)
         | (refine step_app_int (ext w x) rfl _ _ rfl A2 _ c2 ([] ++ out.take (j + 1) ++ [y]) rfl o2 ?_ ?_ _ _ _ (out.drop (j + 1)) rfl hr2 ?_ (by omega) ?_; exact bl; exact bl; exact bl; intro A3 c3 y3 o3 hg3 hd3))
        all_goals
         go_wp2
         obtain ⟨q, hq⟩ := ext_ex (show Below w.heap.size w (ext (ext w x) y3) from bl)
         have o4 := o3.mono (ext_le w x)
         rw [List.nil_append, ← HI.out, hq] at o4
         have hln := o4.len.symm.trans (desTo_len l (j + 1 + 1) (by rw [Hl.out]; omega))
         rw [hln] at o4
         have o5 := o4
         have Hln := Lib.hid hln
         clear hln
         clear o4 o3 hg3 hd3 hg2 hd2 hg1 hd1 o1 o2
         go_roundw
         case rel => exact ⟨j + 1 + 1, A3, c3, q, by omega, by go_num, congrArg (fun z => Value.slice A3 z c3) (by have := Hln.out; omega), hq, o5, fun h => by omega⟩
         case measure => simp [intOf]; omega
       ·
        have hjd' : ¬ (d : Int) = j + 1 := by omega
        have HI := Lib.hid (show desTo l (k + 1) = out.take (j + 1) ++ [y] ++ out.drop (j + 1) by rw [HS.out, insDL, hol, HKn.out])
        have hr1 := hrd.take_ (j + 1) (by omega)
        have hr2 := hrd.drop_ (j + 1) (by omega)
        rw [Nat.zero_add] at hr2
        have htl : (out.take (j + 1)).length = j + 1 := by rw [List.length_take]; omega
        have hjb : (j + 1) ≤ 1099511627776 := by omega
        have o0a := OwI.lit_ (Below.refl _ (ext w x)) [] (by simp [maxLen]) #[] rfl
        have o0b : OwI (ext w x).heap.size (((ext w x).alloc (.cells #[.int .i64 y] 3)).alloc (.cells #[] 3)) (some ⟨(ext w x).heap.size + 1, 0, none⟩) 0 0 [] := by simpa using OwI.lit_ (bAlloc (Below.refl _ (ext w x)) (.cells #[.int .i64 y] 3)) [] (by simp [maxLen]) #[] rfl
        go_wp2
        go_region_law (first
         | (refine step_app_int (ext w x) rfl _ _ rfl _ _ _ [] rfl o0a ?_ ?_ _ _ _ (out.take (j + 1)) rfl hr1 ?_ (by omega) ?_; exact bl; exact bl; exact bl; intro A1 c1 y1 o1 hg1 hd1; rw [Nat.zero_add] at o1)
         | (refine step_app_int (ext w x) rfl _ _ rfl _ _ _ [] rfl o0b ?_ ?_ _ _ _ (out.take (j + 1)) rfl hr1 ?_ (by omega) ?_; exact bl; exact bl; exact bl; intro A1 c1 y1 o1 hg1 hd1; rw [Nat.zero_add] at o1)
         | (refine step_app_int (ext w x) rfl _ _ rfl A1 _ c1 ([] ++ out.take (j + 1)) rfl o1 ?_ ?_ _ 1 1 [y] rfl (RdI.one_ ?_ ?_) (Below.refl _ _) (by omega) ?_; exact bl; exact bl; (focus (simp [go_sem]; done)); (focus (simp [go_sem]; done)); intro A2 c2 y2 o2 hg2 hd2)
         | (refine step_app_int (ext w x) rfl _ _ rfl A1 _ c1 ([] ++ out.take (j + 1)) rfl o1 ?_ ?_ _ 1 1 [y] rfl (RdI.one_ ?_ ?_) (Below.refl _ _) (by omega) ?_; exact bl; exact bl; (focus (first | (simp; done) | (have := hg1.size; simp at this ⊢; omega))); (focus (rw [grown_cellT hg1 (by first | (simp; done) | (simp; omega)) (by simp [blkOf])]; simp [go_sem]; done)); intro A2 c2 y2 o2 hg2 hd2)
         | (refine step_app_int (ext w x) rfl _ _ rfl A2 _ c2 ([] ++ out.take (j + 1) ++ [y]) rfl o2 ?_ ?_ _ _ _ (out.drop (j + 1)) rfl hr2 ?_ (by omega) ?_; exact bl; exact bl; exact bl; intro A3 c3 y3 o3 hg3 hd3))
        all_goals
         go_wp2
         obtain ⟨q, hq⟩ := ext_ex (show Below w.heap.size w (ext (ext w x) y3) from bl)
         have o4 := o3.mono (ext_le w x)
         rw [List.nil_append, ← HI.out, hq] at o4
         have hln := o4.len.symm.trans (desTo_len l (k + 1) (by rw [Hl.out]; omega))
         rw [hln] at o4
         have o5 := o4
         have Hln := Lib.hid hln
         clear hln
         clear o4 o3 hg3 hd3 hg2 hd2 hg1 hd1 o1 o2
         go_roundw
         case rel => exact ⟨k + 1, A3, c3, q, by omega, by go_num, congrArg (fun z => Value.slice A3 z c3) (by have := Hln.out; omega), hq, o5, fun h => by omega⟩
         case measure => simp [intOf]; omega
  ·
   have hkn := Lib.hid (show k = n by omega)
   rw [hkn.out] at ho
   go_wp2
   go_ret
   rw [hkn.out]
   exact RetI.mk_ ho (Nat.le_refl _) (ext_below _ _)
end Go.Proofs.YtmeaklaagglmeaaGreatDoor
namespace Go.Proofs.YtmeaklaagglmeaaGreatDoor
open Go.RowKit
theorem l1MostU_any (a b : Int) (w : World) : Calls Tryz.prog 187 #[.int .i64 a, .int .i64 b] w fun e w' => e = .returned (.int .i64 (max a b)) ∧ w = w' := by
 by_cases h : b < a
 ·
  rw [show max a b = a by omega]
  go_enter Tryz.func187, Tryz.ntmps187
  go_wp2
  go_ret
  exact ⟨rfl, rfl⟩
 ·
  rw [show max a b = b by omega]
  go_enter Tryz.func187, Tryz.ntmps187
  go_wp2
  go_ret
  exact ⟨rfl, rfl⟩
set_option maxHeartbeats 400000 in
theorem poSum_any (w : World) (A : Option Addr) (n c : Nat) (l : List Int) (ha : RdI w A n l) (hn : n ≤ 1000) (hb : ∀ x ∈ l, -100000 ≤ x ∧ x ≤ 100000) :
  Calls Tryz.prog 233 #[.slice A n c] w fun e w' => e = .returned (.int .i64 (sumTo l n)) ∧ w = w' := by
 have Hl := Lib.hid ha.len
 go_enter Tryz.func233, Tryz.ntmps233
 go_wp2
 go_loop [3, 5, 8] (fun t _ i => ∃ k : Nat, k ≤ n ∧ i = .int .i64 k ∧ t = .int .i64 (sumTo l k)) (fun _ _ i => n - (intOf i).toNat)
 case atStart => exact ⟨0, by omega, rfl, rfl⟩
 case round =>
  obtain ⟨k, hk, rfl, rfl⟩ := hrel
  by_cases hlt : k < n
  ·
   obtain ⟨b, off, rfl, hb0, hc⟩ := ha.open_ (by omega)
   have hck := hc k hlt
   rw [List.getD_eq_getElem?_getD] at hck
   have h1 := sumTo_bd (by omega) hb k
   have h2 := hb _ (getD_mem 0 l k (by rw [Hl.out]; exact hlt))
   have HS := Lib.hid (sumTo_succ l k (by rw [Hl.out]; exact hlt))
   clear hc
   generalize l[k]?.getD 0 = x at *
   generalize sumTo l k = s at *
   go_wp2
   go_round
   case rel => exact ⟨k + 1, by omega, by go_num, by rw [HS.out]⟩
   case measure => simp [intOf]; omega
  ·
   have hkn := Lib.hid (show k = n by omega)
   go_wp2
   go_ret
   exact ⟨ret_int (by rw [hkn.out]), rfl⟩
theorem tmMean_any (w : World) (A : Option Addr) (n c : Nat) (l : List Int) (ha : RdI w A n l) (h0 : 0 < n) (hn : n ≤ 1000) (hb : ∀ x ∈ l, -100000 ≤ x ∧ x ≤ 100000) :
  Calls Tryz.prog 280 #[.slice A n c] w (fun e w' => e = .returned (.tuple #[.int .i64 (trimS l), .int .i64 (trimN l : Nat)]) ∧ ∃ y, w' = ext w y) := by
 have hl := ha.len
 have h1 := sumTo_bd (c := 100000) (by omega) hb n
 have Hm := maxOf_mem (l := l) (by omega)
 have Hi := minOf_mem (l := l) (by omega)
 have m1 := hb _ Hm.1
 have m2 := hb _ Hi.1
 have HS : Hid (trimS l = if n < 5 then sumTo l n else sumTo l n - Lib.maxOf l - Lib.minOf l) := by unfold Hid trimS; rw [hl]
 have HN : Hid (trimN l = if n < 5 then n else n - 2) := by unfold Hid trimN; rw [hl]
 have cs := fun W (h : Below w.heap.size w W) => poSum_any W A n c l (ha.below h) hn hb
 have ct := fun W (h : Below w.heap.size w W) => poSorted_any W A n c l (ha.below h) (by omega)
 have HF := Lib.hid (show (desTo l n)[0]?.getD 0 = Lib.maxOf l by rw [← hl]; exact desTo_first (by omega))
 have HL := Lib.hid (show (desTo l n)[n - 1]?.getD 0 = Lib.minOf l by rw [← hl]; exact desTo_last (by omega))
 have hdl := desTo_len l n (by omega)
 clear Hm Hi hb hl
 generalize Lib.maxOf l = mx at *
 generalize Lib.minOf l = mi at *
 generalize sumTo l n = s at *
 generalize desTo l n = out at *
 by_cases h5 : n < 5
 ·
  have h5I : (n : Int) < 5 := by omega
  go_enter Tryz.func280, Tryz.ntmps280
  go_wp2_with (first | (go_at_call 233; ((with_reducible refine (cs _ bl).mono ?_); rintro e w' ⟨rfl, rfl⟩)))
  go_ret2
  exact ⟨ret_int2 (by rw [HS.out, if_pos h5]) (by rw [HN.out, if_pos h5]), ext_ex bl⟩
 ·
  have h5I : ¬ (n : Int) < 5 := by omega
  have HS2 := Lib.hid (show trimS l = s - mx - mi by rw [HS.out, if_neg h5])
  have HN2 := Lib.hid (show ((trimN l : Nat) : Int) = (n : Int) - 2 by rw [HN.out, if_neg h5]; omega)
  have e1 : IntKind.i64.wrap (s - mx) = s - mx := IntWalk.i64_in _ (by omega)
  have e2 : IntKind.i64.wrap (s - mx - mi) = s - mx - mi := IntWalk.i64_in _ (by omega)
  have e3 : IntKind.i64.wrap ((n : Int) - 2) = (n : Int) - 2 := IntWalk.i64_in _ (by omega)
  have e4 : IntKind.i64.wrap ((n : Int) - 1) = ((n - 1 : Nat) : Int) := by rw [IntWalk.i64_in _ (by omega)]; omega
  have hn1 : n - 1 < n := by omega
  have hn1I : ((n - 1 : Nat) : Int) < n := by omega
  clear HS HN
  go_enter Tryz.func280, Tryz.ntmps280
  go_wp2_with (first | (go_at_call 233; ((with_reducible refine (cs _ bl).mono ?_); rintro e w' ⟨rfl, rfl⟩)) | (go_at_call 296; ((with_reducible refine (ct _ bl).mono ?_); rintro e w' ⟨A1, n1, c1, x1, rfl, rfl, o1⟩; (obtain rfl : n = n1 := hdl.symm.trans o1.len))))
  obtain ⟨g, rfl, hg1, hg2⟩ := o1.form_ (by omega)
  have k0 := o1.cell_ 0 (by omega)
  have k1 := o1.cell_ (n - 1) (by omega)
  rw [HF.out] at k0
  rw [HL.out] at k1
  clear o1
  go_quiet (fail)
  go_wp2
  go_ret2
  exact ⟨ret_int2 (by rw [HS2.out]) (by rw [HN2.out]), ext_ex bl⟩
theorem trimmedSum_any (w : World) (A : Option Addr) (n c : Nat) (l : List Int) (ha : RdI w A n l) (h0 : 0 < n) (hn : n ≤ 1000) (hb : ∀ x ∈ l, -100000 ≤ x ∧ x ≤ 100000) :
  Calls Tryz.prog 199 #[.slice A n c] w (fun e w' => e = .returned (.tuple #[.int .i64 (trimS l), .int .i64 (trimN l : Nat)]) ∧ ∃ y, w' = ext w y) := by
 have hl := ha.len
 have h1 := sumTo_bd (c := 100000) (by omega) hb n
 have Hm := maxOf_mem (l := l) (by omega)
 have Hi := minOf_mem (l := l) (by omega)
 have m1 := hb _ Hm.1
 have m2 := hb _ Hi.1
 have HS : Hid (trimS l = if n < 5 then sumTo l n else sumTo l n - Lib.maxOf l - Lib.minOf l) := by unfold Hid trimS; rw [hl]
 have HN : Hid (trimN l = if n < 5 then n else n - 2) := by unfold Hid trimN; rw [hl]
 have cs := fun W (h : Below w.heap.size w W) => sumInts_any W A n c l (ha.below h) hn hb
 have cm := fun W (h : Below w.heap.size w W) => maxInts_any W A n c l (ha.below h) h0 (by omega)
 have ci := fun W (h : Below w.heap.size w W) => minInts_any W A n c l (ha.below h) h0 (by omega)
 clear Hm Hi hb hl
 generalize Lib.maxOf l = mx at *
 generalize Lib.minOf l = mi at *
 generalize sumTo l n = s at *
 by_cases h5 : n < 5
 ·
  have h5I : (n : Int) < 5 := by omega
  go_enter Tryz.func199, Tryz.ntmps199
  go_wp2_with (first | (go_at_call 182; ((with_reducible refine (cs _ bl).mono ?_); rintro e w' ⟨rfl, rfl⟩)))
  go_ret2
  exact ⟨ret_int2 (by rw [HS.out, if_pos h5]) (by rw [HN.out, if_pos h5]), ext_ex bl⟩
 ·
  have h5I : ¬ (n : Int) < 5 := by omega
  have HS2 := Lib.hid (show trimS l = s - mx - mi by rw [HS.out, if_neg h5])
  have HN2 := Lib.hid (show ((trimN l : Nat) : Int) = (n : Int) - 2 by rw [HN.out, if_neg h5]; omega)
  have e1 : IntKind.i64.wrap (s - mx) = s - mx := IntWalk.i64_in _ (by omega)
  have e2 : IntKind.i64.wrap (s - mx - mi) = s - mx - mi := IntWalk.i64_in _ (by omega)
  have e3 : IntKind.i64.wrap ((n : Int) - 2) = (n : Int) - 2 := IntWalk.i64_in _ (by omega)
  clear HS HN
  go_enter Tryz.func199, Tryz.ntmps199
  go_wp2_with (first | (go_at_call 182; ((with_reducible refine (cs _ bl).mono ?_); rintro e w' ⟨rfl, rfl⟩)) | (go_at_call 247; ((with_reducible refine (cm _ bl).mono ?_); rintro e w' ⟨rfl, rfl⟩)) | (go_at_call 248; ((with_reducible refine (ci _ bl).mono ?_); rintro e w' ⟨rfl, rfl⟩)))
  go_ret2
  exact ⟨ret_int2 (by rw [HS2.out]) (by rw [HN2.out]), ext_ex bl⟩
set_option maxHeartbeats 1000000 in
theorem elUnit_any (w : World) (A B : Option Addr) (n m c d : Nat) (els : List El) (q0 q1 q2 q3 : Int) (NA MA : Option Addr) (nn nc mn mc : Nat) (it : It) (ha : RdEl w A n els) (hn : n ≤ 1099511627776) (hC : CodeG els q0 q1 q2) (hN : RdT w NA nn it.1) (hM : RdI w MA mn it.2.1) (hI : ItG els it) :
  Calls Tryz.prog 281 #[.agg #[.slice A n c, .slice B m d, .int .i64 q0, .int .i64 q1, .int .i64 q2, .int .i64 q3], .agg #[.slice NA nn nc, .slice MA mn mc, .bool it.2.2]] w fun e w' => e = .returned (.int .i64 (unitV els q2 it)) ∧ ∃ y, w' = ext w y := by
 have Hn := Lib.hid hN.len
 have Hm := Lib.hid hM.len
 have hI1 := hI.1.2
 have hIm := hI.2.1
 rw [Hn.out] at hI1 hIm
 rw [Hm.out] at hIm
 obtain rfl := hIm.symm
 obtain ⟨hq1, hq2⟩ := hC.2.2
 have cw := fun W s mark (h : Below w.heap.size w W) hf => bsWorth_any W A B n m c d els q0 q1 q2 q3 s mark (ha.below h) hn hf hC.1 hq2.1 hq2.2
 have hkn := hI.2.2
 rw [Hn.out] at hkn
 have HV := Lib.hid (uMost_all hC hI)
 have HV : Hid (uMost els q2 it nn = unitV els q2 it) := by have := HV.out; rwa [Hn.out] at this
 obtain ⟨late, hlate⟩ : ∃ l, it.2.2 = l := ⟨_, rfl⟩
 rw [hlate]
 clear hlate hC hI
 go_enter Tryz.func281, Tryz.ntmps281
 go_wp2
 go_loopw [5, 6, 7, 11] (fun t _ _ i wr => ∃ (k : Nat) (y : World), k ≤ nn ∧ i = .int .i64 k ∧ t = .int .i64 (uMost els q2 it k) ∧ wr = ext ((w.alloc (.cells #[.slice A n c, .slice B m d, .int .i64 q0, .int .i64 q1, .int .i64 q2, .int .i64 q3] 39)).alloc (.cells #[.slice NA nn nc, .slice MA nn mc, .bool late] 70)) y) (fun _ _ _ i _ => nn - (intOf i).toNat)
 case atStart => exact ⟨0, _, by omega, rfl, by simp [uMost, wTo], ext_self _⟩
 case round =>
  obtain ⟨k, y, hk, rfl, rfl, rfl⟩ := hrel
  by_cases hlt : k < nn
  ·
   obtain ⟨bn, on, rfl, hbn, hcn⟩ := hN.open_ (by omega)
   obtain ⟨bm, om, rfl, hbm, hcm⟩ := hM.open_ (by omega)
   have hcnk : w.cell? ⟨bn, on + k, none⟩ = some (.string (nmAt it k)) := hcn k hlt
   have hcmk : w.cell? ⟨bm, om + k, none⟩ = some (.int .i64 (mkAt it k)) := by have := hcm k (by omega); rwa [List.getD_eq_getElem?_getD] at this
   have hf : 0 ≤ findE els (nmAt it k) := hkn k hlt
   have HS := Lib.hid (uMost_succ els q2 it k)
   have cs := fun W (h : Below w.heap.size w W) => cw W (nmAt it k) (mkAt it k) h hf
   clear hcn hcm cw hf hkn
   generalize uMost els q2 it k = s at *
   generalize wAt els q2 (nmAt it k) (mkAt it k) = v at *
   generalize nmAt it k = nm at *
   generalize mkAt it k = mk at *
   have hR : ((w.alloc (.cells #[.slice A n c, .slice B m d, .int .i64 q0, .int .i64 q1, .int .i64 q2, .int .i64 q3] 39)).alloc (.cells #[.slice (some ⟨bn, on, none⟩) nn nc, .slice (some ⟨bm, om, none⟩) nn mc, .bool late] 70)).cell? ⟨w.heap.size, 0, none⟩ = some (.slice A n c) ∧ ((w.alloc (.cells #[.slice A n c, .slice B m d, .int .i64 q0, .int .i64 q1, .int .i64 q2, .int .i64 q3] 39)).alloc (.cells #[.slice (some ⟨bn, on, none⟩) nn nc, .slice (some ⟨bm, om, none⟩) nn mc, .bool late] 70)).cell? ⟨w.heap.size, 1, none⟩ = some (.slice B m d) ∧ ((w.alloc (.cells #[.slice A n c, .slice B m d, .int .i64 q0, .int .i64 q1, .int .i64 q2, .int .i64 q3] 39)).alloc (.cells #[.slice (some ⟨bn, on, none⟩) nn nc, .slice (some ⟨bm, om, none⟩) nn mc, .bool late] 70)).cell? ⟨w.heap.size, 2, none⟩ = some (.int .i64 q0) ∧ ((w.alloc (.cells #[.slice A n c, .slice B m d, .int .i64 q0, .int .i64 q1, .int .i64 q2, .int .i64 q3] 39)).alloc (.cells #[.slice (some ⟨bn, on, none⟩) nn nc, .slice (some ⟨bm, om, none⟩) nn mc, .bool late] 70)).cell? ⟨w.heap.size, 3, none⟩ = some (.int .i64 q1) ∧ ((w.alloc (.cells #[.slice A n c, .slice B m d, .int .i64 q0, .int .i64 q1, .int .i64 q2, .int .i64 q3] 39)).alloc (.cells #[.slice (some ⟨bn, on, none⟩) nn nc, .slice (some ⟨bm, om, none⟩) nn mc, .bool late] 70)).cell? ⟨w.heap.size, 4, none⟩ = some (.int .i64 q2) ∧ ((w.alloc (.cells #[.slice A n c, .slice B m d, .int .i64 q0, .int .i64 q1, .int .i64 q2, .int .i64 q3] 39)).alloc (.cells #[.slice (some ⟨bn, on, none⟩) nn nc, .slice (some ⟨bm, om, none⟩) nn mc, .bool late] 70)).cell? ⟨w.heap.size, 5, none⟩ = some (.int .i64 q3) ∧ ((w.alloc (.cells #[.slice A n c, .slice B m d, .int .i64 q0, .int .i64 q1, .int .i64 q2, .int .i64 q3] 39)).alloc (.cells #[.slice (some ⟨bn, on, none⟩) nn nc, .slice (some ⟨bm, om, none⟩) nn mc, .bool late] 70)).cell? ⟨w.heap.size + 1, 0, none⟩ = some (.slice (some ⟨bn, on, none⟩) nn nc) ∧ ((w.alloc (.cells #[.slice A n c, .slice B m d, .int .i64 q0, .int .i64 q1, .int .i64 q2, .int .i64 q3] 39)).alloc (.cells #[.slice (some ⟨bn, on, none⟩) nn nc, .slice (some ⟨bm, om, none⟩) nn mc, .bool late] 70)).cell? ⟨w.heap.size + 1, 1, none⟩ = some (.slice (some ⟨bm, om, none⟩) nn mc) ∧ ((w.alloc (.cells #[.slice A n c, .slice B m d, .int .i64 q0, .int .i64 q1, .int .i64 q2, .int .i64 q3] 39)).alloc (.cells #[.slice (some ⟨bn, on, none⟩) nn nc, .slice (some ⟨bm, om, none⟩) nn mc, .bool late] 70)).cell? ⟨w.heap.size + 1, 2, none⟩ = some (.bool late) ∧ ((w.alloc (.cells #[.slice A n c, .slice B m d, .int .i64 q0, .int .i64 q1, .int .i64 q2, .int .i64 q3] 39)).alloc (.cells #[.slice (some ⟨bn, on, none⟩) nn nc, .slice (some ⟨bm, om, none⟩) nn mc, .bool late] 70)).cell? ⟨bm, om + k, none⟩ = some (.int .i64 mk) := by refine ⟨?_, ?_, ?_, ?_, ?_, ?_, ?_, ?_, ?_, ?_⟩ <;> first | assumption | simp [*, go_sem]
   have hS := fun (W : World) (h : Below ((w.alloc (.cells #[.slice A n c, .slice B m d, .int .i64 q0, .int .i64 q1, .int .i64 q2, .int .i64 q3] 39)).alloc (.cells #[.slice (some ⟨bn, on, none⟩) nn nc, .slice (some ⟨bm, om, none⟩) nn mc, .bool late] 70)).heap.size ((w.alloc (.cells #[.slice A n c, .slice B m d, .int .i64 q0, .int .i64 q1, .int .i64 q2, .int .i64 q3] 39)).alloc (.cells #[.slice (some ⟨bn, on, none⟩) nn nc, .slice (some ⟨bm, om, none⟩) nn mc, .bool late] 70)) W) => (⟨(h.cell (p := ⟨w.heap.size, 0, none⟩) (by first | assumption | (simp [go_sem]; done) | (simp [go_sem]; omega))).trans hR.1, (h.cell (p := ⟨w.heap.size, 1, none⟩) (by first | assumption | (simp [go_sem]; done) | (simp [go_sem]; omega))).trans hR.2.1, (h.cell (p := ⟨w.heap.size, 2, none⟩) (by first | assumption | (simp [go_sem]; done) | (simp [go_sem]; omega))).trans hR.2.2.1, (h.cell (p := ⟨w.heap.size, 3, none⟩) (by first | assumption | (simp [go_sem]; done) | (simp [go_sem]; omega))).trans hR.2.2.2.1, (h.cell (p := ⟨w.heap.size, 4, none⟩) (by first | assumption | (simp [go_sem]; done) | (simp [go_sem]; omega))).trans hR.2.2.2.2.1, (h.cell (p := ⟨w.heap.size, 5, none⟩) (by first | assumption | (simp [go_sem]; done) | (simp [go_sem]; omega))).trans hR.2.2.2.2.2.1, (h.cell (p := ⟨w.heap.size + 1, 0, none⟩) (by first | assumption | (simp [go_sem]; done) | (simp [go_sem]; omega))).trans hR.2.2.2.2.2.2.1, (h.cell (p := ⟨w.heap.size + 1, 1, none⟩) (by first | assumption | (simp [go_sem]; done) | (simp [go_sem]; omega))).trans hR.2.2.2.2.2.2.2.1, (h.cell (p := ⟨w.heap.size + 1, 2, none⟩) (by first | assumption | (simp [go_sem]; done) | (simp [go_sem]; omega))).trans hR.2.2.2.2.2.2.2.2.1, (h.cell (p := ⟨bm, om + k, none⟩) (by first | assumption | (simp [go_sem]; done) | (simp [go_sem]; omega))).trans hR.2.2.2.2.2.2.2.2.2⟩ : W.cell? ⟨w.heap.size, 0, none⟩ = some (.slice A n c) ∧ W.cell? ⟨w.heap.size, 1, none⟩ = some (.slice B m d) ∧ W.cell? ⟨w.heap.size, 2, none⟩ = some (.int .i64 q0) ∧ W.cell? ⟨w.heap.size, 3, none⟩ = some (.int .i64 q1) ∧ W.cell? ⟨w.heap.size, 4, none⟩ = some (.int .i64 q2) ∧ W.cell? ⟨w.heap.size, 5, none⟩ = some (.int .i64 q3) ∧ W.cell? ⟨w.heap.size + 1, 0, none⟩ = some (.slice (some ⟨bn, on, none⟩) nn nc) ∧ W.cell? ⟨w.heap.size + 1, 1, none⟩ = some (.slice (some ⟨bm, om, none⟩) nn mc) ∧ W.cell? ⟨w.heap.size + 1, 2, none⟩ = some (.bool late) ∧ W.cell? ⟨bm, om + k, none⟩ = some (.int .i64 mk))
   clear hR
   have fn1 := ((by repeat (first | exact Below.refl _ _ | assumption | refine bExt ?_ _ | refine bAlloc ?_ _ | refine bDrewN ?_ _ | refine bDrew ?_ | refine bSet ?_ (by first | exact Nat.le_refl _ | omega | (simp; done) | (simp; omega)) _) : Below w.heap.size w (ext ((w.alloc (.cells #[.slice A n c, .slice B m d, .int .i64 q0, .int .i64 q1, .int .i64 q2, .int .i64 q3] 39)).alloc (.cells #[.slice (some ⟨bn, on, none⟩) nn nc, .slice (some ⟨bm, om, none⟩) nn mc, .bool late] 70)) y)).cell (p := ⟨bn, on + k, none⟩) hbn).trans hcnk
   have fm1 := ((by repeat (first | exact Below.refl _ _ | assumption | refine bExt ?_ _ | refine bAlloc ?_ _ | refine bDrewN ?_ _ | refine bDrew ?_ | refine bSet ?_ (by first | exact Nat.le_refl _ | omega | (simp; done) | (simp; omega)) _) : Below w.heap.size w (ext ((w.alloc (.cells #[.slice A n c, .slice B m d, .int .i64 q0, .int .i64 q1, .int .i64 q2, .int .i64 q3] 39)).alloc (.cells #[.slice (some ⟨bn, on, none⟩) nn nc, .slice (some ⟨bm, om, none⟩) nn mc, .bool late] 70)) y)).cell (p := ⟨bm, om + k, none⟩) hbm).trans hcmk
   go_wp2
   go_region_held3 (fun w' => w'.cell? ⟨w.heap.size, 0, none⟩ = some (.slice A n c) ∧ w'.cell? ⟨w.heap.size, 1, none⟩ = some (.slice B m d) ∧ w'.cell? ⟨w.heap.size, 2, none⟩ = some (.int .i64 q0) ∧ w'.cell? ⟨w.heap.size, 3, none⟩ = some (.int .i64 q1) ∧ w'.cell? ⟨w.heap.size, 4, none⟩ = some (.int .i64 q2) ∧ w'.cell? ⟨w.heap.size, 5, none⟩ = some (.int .i64 q3) ∧ w'.cell? ⟨w.heap.size + 1, 0, none⟩ = some (.slice (some ⟨bn, on, none⟩) nn nc) ∧ w'.cell? ⟨w.heap.size + 1, 1, none⟩ = some (.slice (some ⟨bm, om, none⟩) nn mc) ∧ w'.cell? ⟨w.heap.size + 1, 2, none⟩ = some (.bool late) ∧ w'.cell? ⟨bm, om + k, none⟩ = some (.int .i64 mk)) (exact hS _ bl) (first | (go_at_call 253; ((with_reducible refine (cs _ bl).mono ?_); rintro e w' ⟨rfl, y3, rfl⟩)) | (go_at_call 187; ((with_reducible refine (l1MostU_any s v _).mono ?_); rintro e w' ⟨rfl, rfl⟩)))
   go_wp2
   go_roundw
   case rel => exact ⟨k + 1, _, by omega, by go_num, by rw [HS.out], (ext_ex bl).choose_spec⟩
   case measure => simp [intOf]; omega
  ·
   obtain rfl : k = nn := by omega
   go_wp2
   go_ret
   exact ⟨ret_int HV.out, ext_ex bl⟩
theorem unitOf_any (w : World) (A B : Option Addr) (n m c d : Nat) (els : List El) (q0 q1 q2 q3 : Int) (NA MA : Option Addr) (nn nc mn mc : Nat) (it : It) (ha : RdEl w A n els) (hn : n ≤ 1099511627776) (hC : CodeG els q0 q1 q2) (hN : RdT w NA nn it.1) (hM : RdI w MA mn it.2.1) (hI : ItG els it) :
  Calls Tryz.prog 201 #[.agg #[.slice A n c, .slice B m d, .int .i64 q0, .int .i64 q1, .int .i64 q2, .int .i64 q3], .agg #[.slice NA nn nc, .slice MA mn mc, .bool it.2.2]] w fun e w' => e = .returned (.int .i64 (unitV els q2 it)) ∧ ∃ y, w' = ext w y := by
 have Hn := Lib.hid hN.len
 have hI1 := hI.1
 rw [Hn.out] at hI1
 have cw := fun W (h : Below w.heap.size w W) => worths_any W A B n m c d els q0 q1 q2 q3 NA MA nn nc mn mc it (ha.below h) hn hC (hN.below h) (hM.below h) hI
 have HV : Hid (Lib.maxOf (wTo els q2 it nn) = unitV els q2 it) := by unfold Hid unitV; rw [Hn.out]
 have hln := wTo_len els q2 it nn
 obtain ⟨late, hlate⟩ : ∃ l, it.2.2 = l := ⟨_, rfl⟩
 rw [hlate] at cw ⊢
 clear hlate
 generalize wTo els q2 it nn = l at *
 go_enter Tryz.func201, Tryz.ntmps201
 go_wp2_with (first | (go_at_call 246; ((with_reducible refine (cw _ bl).mono ?_); rintro e w' ⟨A1, n1, c1, x1, rfl, rfl, o1⟩; (obtain rfl : n1 = nn := o1.len.symm.trans hln))) | (go_at_call 247; ((with_reducible refine (maxInts_any _ _ _ _ _ o1.rd (by omega) (by omega)).mono ?_); rintro e w' ⟨rfl, rfl⟩)))
 go_ret
 exact ⟨ret_int HV.out, ext_ex bl⟩
end Go.Proofs.YtmeaklaagglmeaaGreatDoor
namespace Go.Proofs.YtmeaklaagglmeaaGreatDoor
open Go.RowKit
def GP (w : World) (A : Option Addr) (n : Nat) (els : List El) (q0 q1 q2 : Int) (I : Option Addr) (n2 c2 : Nat) (its : List It) : Prop :=
 (RdEl w A n els ∧ n ≤ 1099511627776 ∧ CodeG els q0 q1 q2) ∧ RdIt w I n2 its ∧ n2 ≤ 1099511627776 ∧ n2 ≤ c2 ∧ ItsG els its
theorem GP.below {w w' : World} {A : Option Addr} {n : Nat} {els : List El} {q0 q1 q2 : Int} {I : Option Addr} {n2 c2 : Nat} {its : List It} (h : GP w A n els q0 q1 q2 I n2 c2 its) (hb : Below w.heap.size w w') : GP w' A n els q0 q1 q2 I n2 c2 its := ⟨⟨h.1.1.below hb, h.1.2⟩, h.2.1.below hb, h.2.2⟩

theorem bsItemG (w : World) (A B : Option Addr) (n m c d : Nat) (els : List El) (q0 q1 q2 q3 : Int) (I : Option Addr) (n2 c2 : Nat) (its : List It) (k : Nat) (hG : GP w A n els q0 q1 q2 I n2 c2 its) (hk : k < n2) : Calls Tryz.prog 155 #[.agg #[.slice A n c, .slice B m d, .int .i64 q0, .int .i64 q1, .int .i64 q2, .int .i64 q3], .slice I n2 c2, .int .i64 k] w (fun e w' => e = .returned (.int .i64 (baseV els q0 q1 q2 its k)) ∧ ∃ y, w' = ext w y) :=
 bsItem_any w A B n m c d els q0 q1 q2 q3 I n2 c2 its k hG.1.1 hG.1.2.1 hG.1.2.2 hG.2.1 hk hG.2.2.1 hG.2.2.2.1 hG.2.2.2.2
theorem itemBaseG (w : World) (A B : Option Addr) (n m c d : Nat) (els : List El) (q0 q1 q2 q3 : Int) (I : Option Addr) (n2 c2 : Nat) (its : List It) (k : Nat) (hG : GP w A n els q0 q1 q2 I n2 c2 its) (hk : k < n2) : Calls Tryz.prog 148 #[.agg #[.slice A n c, .slice B m d, .int .i64 q0, .int .i64 q1, .int .i64 q2, .int .i64 q3], .slice I n2 c2, .int .i64 k] w (fun e w' => e = .returned (.int .i64 (baseV els q0 q1 q2 its k)) ∧ ∃ y, w' = ext w y) :=
 itemBase_any w A B n m c d els q0 q1 q2 q3 I n2 c2 its k hG.1.1 hG.1.2.1 hG.1.2.2 hG.2.1 hk hG.2.2.1 hG.2.2.2.1 hG.2.2.2.2
set_option maxHeartbeats 1000000 in
theorem elPoints_any (w : World) (A B : Option Addr) (n m c d : Nat) (els : List El) (q0 q1 q2 q3 : Int) (I : Option Addr) (n2 c2 : Nat) (its : List It) (k : Nat) (hG : GP w A n els q0 q1 q2 I n2 c2 its) (hk : k < n2) (G : Option Addr) (gn gc : Nat) (g : List Int) (hg : RdI w G gn g) (hgg : GrG g) :
  Calls Tryz.prog 254 #[.agg #[.slice A n c, .slice B m d, .int .i64 q0, .int .i64 q1, .int .i64 q2, .int .i64 q3], .slice I n2 c2, .int .i64 k, .slice G gn gc] w (fun e w' => e = .returned (.int .i64 (ptsV els q0 q1 q2 its k g)) ∧ ∃ y, w' = ext w y) := by
 have cb := fun W (h : Below w.heap.size w W) => bsItemG W A B n m c d els q0 q1 q2 q3 I n2 c2 its k (hG.below h) hk
 obtain ⟨⟨hA, hn, hC⟩, hi, hn2, hc2, hI⟩ := hG
 have Hl := Lib.hid hi.len
 have hIk := hI k (by rw [Hl.out]; exact hk)
 have hgl := hg.len
 have cm := fun W (h : Below w.heap.size w W) => tmMean_any W G gn gc g (hg.below h) (by have := hgg.1; omega) (by have := hgg.1; omega) (fun x hx => by have := hgg.2 x hx; omega)
 have hmul := pts_mul hC hIk hgg
 have htn := trimN_bd hgg.1.1 hgg.1.2
 obtain ⟨b, off, NA, nn, nc, MA, mn, mc, rfl, hb0, hc0, hc1, hc2', hN, hM, _, _⟩ := hi.at_ k hk
 have cu := fun W (h : Below w.heap.size w W) => elUnit_any W A B n m c d els q0 q1 q2 q3 NA MA nn nc mn mc (its[k]?.getD zIt) (hA.below h) hn hC (hN.below h) (hM.below h) hIk
 have HV : Hid (ptsV els q0 q1 q2 its k g = if baseV els q0 q1 q2 its k = 0 then 0 else roundV (trimS g * unitV els q2 (its[k]?.getD zIt)) (10 * (trimN g : Int))) := rfl
 clear hA hC hi hc2 hI hIk hN hM hgg hg
 generalize its[k]?.getD zIt = it at *
 generalize baseV els q0 q1 q2 its k = bv at *
 generalize unitV els q2 it = uv at *
 generalize trimS g = ts at *
 generalize trimN g = tn at *
 have hR : (w.alloc (.cells #[.slice A n c, .slice B m d, .int .i64 q0, .int .i64 q1, .int .i64 q2, .int .i64 q3] 39)).cell? ⟨w.heap.size, 0, none⟩ = some (.slice A n c) ∧ (w.alloc (.cells #[.slice A n c, .slice B m d, .int .i64 q0, .int .i64 q1, .int .i64 q2, .int .i64 q3] 39)).cell? ⟨w.heap.size, 1, none⟩ = some (.slice B m d) ∧ (w.alloc (.cells #[.slice A n c, .slice B m d, .int .i64 q0, .int .i64 q1, .int .i64 q2, .int .i64 q3] 39)).cell? ⟨w.heap.size, 2, none⟩ = some (.int .i64 q0) ∧ (w.alloc (.cells #[.slice A n c, .slice B m d, .int .i64 q0, .int .i64 q1, .int .i64 q2, .int .i64 q3] 39)).cell? ⟨w.heap.size, 3, none⟩ = some (.int .i64 q1) ∧ (w.alloc (.cells #[.slice A n c, .slice B m d, .int .i64 q0, .int .i64 q1, .int .i64 q2, .int .i64 q3] 39)).cell? ⟨w.heap.size, 4, none⟩ = some (.int .i64 q2) ∧ (w.alloc (.cells #[.slice A n c, .slice B m d, .int .i64 q0, .int .i64 q1, .int .i64 q2, .int .i64 q3] 39)).cell? ⟨w.heap.size, 5, none⟩ = some (.int .i64 q3) ∧ (w.alloc (.cells #[.slice A n c, .slice B m d, .int .i64 q0, .int .i64 q1, .int .i64 q2, .int .i64 q3] 39)).cell? ⟨b, off + k * 3, none⟩ = some (.slice NA nn nc) ∧ (w.alloc (.cells #[.slice A n c, .slice B m d, .int .i64 q0, .int .i64 q1, .int .i64 q2, .int .i64 q3] 39)).cell? ⟨b, off + k * 3 + 1, none⟩ = some (.slice MA mn mc) ∧ (w.alloc (.cells #[.slice A n c, .slice B m d, .int .i64 q0, .int .i64 q1, .int .i64 q2, .int .i64 q3] 39)).cell? ⟨b, off + k * 3 + 2, none⟩ = some (.bool it.2.2) := by refine ⟨?_, ?_, ?_, ?_, ?_, ?_, ?_, ?_, ?_⟩ <;> first | assumption | simp [*, go_sem]
 have hS := fun (W : World) (h : Below (w.alloc (.cells #[.slice A n c, .slice B m d, .int .i64 q0, .int .i64 q1, .int .i64 q2, .int .i64 q3] 39)).heap.size (w.alloc (.cells #[.slice A n c, .slice B m d, .int .i64 q0, .int .i64 q1, .int .i64 q2, .int .i64 q3] 39)) W) => (⟨(h.cell (p := ⟨w.heap.size, 0, none⟩) (by first | assumption | (simp [go_sem]; done) | (simp [go_sem]; omega))).trans hR.1, (h.cell (p := ⟨w.heap.size, 1, none⟩) (by first | assumption | (simp [go_sem]; done) | (simp [go_sem]; omega))).trans hR.2.1, (h.cell (p := ⟨w.heap.size, 2, none⟩) (by first | assumption | (simp [go_sem]; done) | (simp [go_sem]; omega))).trans hR.2.2.1, (h.cell (p := ⟨w.heap.size, 3, none⟩) (by first | assumption | (simp [go_sem]; done) | (simp [go_sem]; omega))).trans hR.2.2.2.1, (h.cell (p := ⟨w.heap.size, 4, none⟩) (by first | assumption | (simp [go_sem]; done) | (simp [go_sem]; omega))).trans hR.2.2.2.2.1, (h.cell (p := ⟨w.heap.size, 5, none⟩) (by first | assumption | (simp [go_sem]; done) | (simp [go_sem]; omega))).trans hR.2.2.2.2.2.1, (h.cell (p := ⟨b, off + k * 3, none⟩) (by first | assumption | (simp [go_sem]; done) | (simp [go_sem]; omega))).trans hR.2.2.2.2.2.2.1, (h.cell (p := ⟨b, off + k * 3 + 1, none⟩) (by first | assumption | (simp [go_sem]; done) | (simp [go_sem]; omega))).trans hR.2.2.2.2.2.2.2.1, (h.cell (p := ⟨b, off + k * 3 + 2, none⟩) (by first | assumption | (simp [go_sem]; done) | (simp [go_sem]; omega))).trans hR.2.2.2.2.2.2.2.2⟩ : W.cell? ⟨w.heap.size, 0, none⟩ = some (.slice A n c) ∧ W.cell? ⟨w.heap.size, 1, none⟩ = some (.slice B m d) ∧ W.cell? ⟨w.heap.size, 2, none⟩ = some (.int .i64 q0) ∧ W.cell? ⟨w.heap.size, 3, none⟩ = some (.int .i64 q1) ∧ W.cell? ⟨w.heap.size, 4, none⟩ = some (.int .i64 q2) ∧ W.cell? ⟨w.heap.size, 5, none⟩ = some (.int .i64 q3) ∧ W.cell? ⟨b, off + k * 3, none⟩ = some (.slice NA nn nc) ∧ W.cell? ⟨b, off + k * 3 + 1, none⟩ = some (.slice MA mn mc) ∧ W.cell? ⟨b, off + k * 3 + 2, none⟩ = some (.bool it.2.2))
 clear hR
 clear hc0 hc1 hc2'
 by_cases h0 : bv = 0
 ·
  have HW := Lib.hid (show ptsV els q0 q1 q2 its k g = 0 by rw [HV.out, if_pos h0])
  subst h0
  clear HV
  go_enter Tryz.func254, Tryz.ntmps254
  go_wp2_with (first | (go_at_call 155; ((with_reducible refine (cb _ bl).mono ?_); rintro e w' ⟨rfl, y1, rfl⟩)))
  go_ret
  exact ⟨ret_int (by rw [HW.out]), ext_ex bl⟩
 ·
  have b0 : (bv == 0) = false := by simp [h0]
  have HW := Lib.hid (show ptsV els q0 q1 q2 its k g = roundV (ts * uv) (10 * (tn : Int)) by rw [HV.out, if_neg h0])
  have e1 : IntKind.i64.wrap (ts * uv) = ts * uv := IntWalk.i64_in _ (by omega)
  have e2 : IntKind.i64.wrap (10 * (tn : Int)) = 10 * (tn : Int) := IntWalk.i64_in _ (by omega)
  have cr := fun W => poRound_any (ts * uv) (10 * (tn : Int)) W (by omega) (by omega) (by omega) (by omega)
  clear HV
  go_enter Tryz.func254, Tryz.ntmps254
  go_wp2_with (first | (go_at_call 155; ((with_reducible refine (cb _ bl).mono ?_); rintro e w' ⟨rfl, y1, rfl⟩)) | (go_at_call 280; ((with_reducible refine (cm _ bl).mono ?_); rintro e w' ⟨rfl, y2, rfl⟩)))
  go_region_held3 (fun w' => w'.cell? ⟨w.heap.size, 0, none⟩ = some (.slice A n c) ∧ w'.cell? ⟨w.heap.size, 1, none⟩ = some (.slice B m d) ∧ w'.cell? ⟨w.heap.size, 2, none⟩ = some (.int .i64 q0) ∧ w'.cell? ⟨w.heap.size, 3, none⟩ = some (.int .i64 q1) ∧ w'.cell? ⟨w.heap.size, 4, none⟩ = some (.int .i64 q2) ∧ w'.cell? ⟨w.heap.size, 5, none⟩ = some (.int .i64 q3) ∧ w'.cell? ⟨b, off + k * 3, none⟩ = some (.slice NA nn nc) ∧ w'.cell? ⟨b, off + k * 3 + 1, none⟩ = some (.slice MA mn mc) ∧ w'.cell? ⟨b, off + k * 3 + 2, none⟩ = some (.bool it.2.2)) (exact hS _ bl) (first | (go_at_call 281; ((with_reducible refine (cu _ bl).mono ?_); rintro e w' ⟨rfl, y3, rfl⟩)) | (go_at_call 235; ((with_reducible refine (cr _).mono ?_); rintro e w' ⟨rfl, rfl⟩)))
  all_goals
   go_wp2
   go_ret
   exact ⟨ret_int (by rw [HW.out]), ext_ex bl⟩
set_option maxHeartbeats 1000000 in
theorem pointsFor_any (w : World) (A B : Option Addr) (n m c d : Nat) (els : List El) (q0 q1 q2 q3 : Int) (I : Option Addr) (n2 c2 : Nat) (its : List It) (k : Nat) (hG : GP w A n els q0 q1 q2 I n2 c2 its) (hk : k < n2) (G : Option Addr) (gn gc : Nat) (g : List Int) (hg : RdI w G gn g) (hgg : GrG g) :
  Calls Tryz.prog 149 #[.agg #[.slice A n c, .slice B m d, .int .i64 q0, .int .i64 q1, .int .i64 q2, .int .i64 q3], .slice I n2 c2, .int .i64 k, .slice G gn gc] w (fun e w' => e = .returned (.int .i64 (ptsV els q0 q1 q2 its k g)) ∧ ∃ y, w' = ext w y) := by
 have cb := fun W (h : Below w.heap.size w W) => itemBaseG W A B n m c d els q0 q1 q2 q3 I n2 c2 its k (hG.below h) hk
 obtain ⟨⟨hA, hn, hC⟩, hi, hn2, hc2, hI⟩ := hG
 have Hl := Lib.hid hi.len
 have hIk := hI k (by rw [Hl.out]; exact hk)
 have hgl := hg.len
 have cm := fun W (h : Below w.heap.size w W) => trimmedSum_any W G gn gc g (hg.below h) (by have := hgg.1; omega) (by have := hgg.1; omega) (fun x hx => by have := hgg.2 x hx; omega)
 have hmul := pts_mul hC hIk hgg
 have htn := trimN_bd hgg.1.1 hgg.1.2
 obtain ⟨b, off, NA, nn, nc, MA, mn, mc, rfl, hb0, hc0, hc1, hc2', hN, hM, _, _⟩ := hi.at_ k hk
 have cu := fun W (h : Below w.heap.size w W) => unitOf_any W A B n m c d els q0 q1 q2 q3 NA MA nn nc mn mc (its[k]?.getD zIt) (hA.below h) hn hC (hN.below h) (hM.below h) hIk
 have HV : Hid (ptsV els q0 q1 q2 its k g = if baseV els q0 q1 q2 its k = 0 then 0 else roundV (trimS g * unitV els q2 (its[k]?.getD zIt)) (10 * (trimN g : Int))) := rfl
 clear hA hC hi hc2 hI hIk hN hM hgg hg
 generalize its[k]?.getD zIt = it at *
 generalize baseV els q0 q1 q2 its k = bv at *
 generalize unitV els q2 it = uv at *
 generalize trimS g = ts at *
 generalize trimN g = tn at *
 have hR : (w.alloc (.cells #[.slice A n c, .slice B m d, .int .i64 q0, .int .i64 q1, .int .i64 q2, .int .i64 q3] 39)).cell? ⟨w.heap.size, 0, none⟩ = some (.slice A n c) ∧ (w.alloc (.cells #[.slice A n c, .slice B m d, .int .i64 q0, .int .i64 q1, .int .i64 q2, .int .i64 q3] 39)).cell? ⟨w.heap.size, 1, none⟩ = some (.slice B m d) ∧ (w.alloc (.cells #[.slice A n c, .slice B m d, .int .i64 q0, .int .i64 q1, .int .i64 q2, .int .i64 q3] 39)).cell? ⟨w.heap.size, 2, none⟩ = some (.int .i64 q0) ∧ (w.alloc (.cells #[.slice A n c, .slice B m d, .int .i64 q0, .int .i64 q1, .int .i64 q2, .int .i64 q3] 39)).cell? ⟨w.heap.size, 3, none⟩ = some (.int .i64 q1) ∧ (w.alloc (.cells #[.slice A n c, .slice B m d, .int .i64 q0, .int .i64 q1, .int .i64 q2, .int .i64 q3] 39)).cell? ⟨w.heap.size, 4, none⟩ = some (.int .i64 q2) ∧ (w.alloc (.cells #[.slice A n c, .slice B m d, .int .i64 q0, .int .i64 q1, .int .i64 q2, .int .i64 q3] 39)).cell? ⟨w.heap.size, 5, none⟩ = some (.int .i64 q3) ∧ (w.alloc (.cells #[.slice A n c, .slice B m d, .int .i64 q0, .int .i64 q1, .int .i64 q2, .int .i64 q3] 39)).cell? ⟨b, off + k * 3, none⟩ = some (.slice NA nn nc) ∧ (w.alloc (.cells #[.slice A n c, .slice B m d, .int .i64 q0, .int .i64 q1, .int .i64 q2, .int .i64 q3] 39)).cell? ⟨b, off + k * 3 + 1, none⟩ = some (.slice MA mn mc) ∧ (w.alloc (.cells #[.slice A n c, .slice B m d, .int .i64 q0, .int .i64 q1, .int .i64 q2, .int .i64 q3] 39)).cell? ⟨b, off + k * 3 + 2, none⟩ = some (.bool it.2.2) := by refine ⟨?_, ?_, ?_, ?_, ?_, ?_, ?_, ?_, ?_⟩ <;> first | assumption | simp [*, go_sem]
 have hS := fun (W : World) (h : Below (w.alloc (.cells #[.slice A n c, .slice B m d, .int .i64 q0, .int .i64 q1, .int .i64 q2, .int .i64 q3] 39)).heap.size (w.alloc (.cells #[.slice A n c, .slice B m d, .int .i64 q0, .int .i64 q1, .int .i64 q2, .int .i64 q3] 39)) W) => (⟨(h.cell (p := ⟨w.heap.size, 0, none⟩) (by first | assumption | (simp [go_sem]; done) | (simp [go_sem]; omega))).trans hR.1, (h.cell (p := ⟨w.heap.size, 1, none⟩) (by first | assumption | (simp [go_sem]; done) | (simp [go_sem]; omega))).trans hR.2.1, (h.cell (p := ⟨w.heap.size, 2, none⟩) (by first | assumption | (simp [go_sem]; done) | (simp [go_sem]; omega))).trans hR.2.2.1, (h.cell (p := ⟨w.heap.size, 3, none⟩) (by first | assumption | (simp [go_sem]; done) | (simp [go_sem]; omega))).trans hR.2.2.2.1, (h.cell (p := ⟨w.heap.size, 4, none⟩) (by first | assumption | (simp [go_sem]; done) | (simp [go_sem]; omega))).trans hR.2.2.2.2.1, (h.cell (p := ⟨w.heap.size, 5, none⟩) (by first | assumption | (simp [go_sem]; done) | (simp [go_sem]; omega))).trans hR.2.2.2.2.2.1, (h.cell (p := ⟨b, off + k * 3, none⟩) (by first | assumption | (simp [go_sem]; done) | (simp [go_sem]; omega))).trans hR.2.2.2.2.2.2.1, (h.cell (p := ⟨b, off + k * 3 + 1, none⟩) (by first | assumption | (simp [go_sem]; done) | (simp [go_sem]; omega))).trans hR.2.2.2.2.2.2.2.1, (h.cell (p := ⟨b, off + k * 3 + 2, none⟩) (by first | assumption | (simp [go_sem]; done) | (simp [go_sem]; omega))).trans hR.2.2.2.2.2.2.2.2⟩ : W.cell? ⟨w.heap.size, 0, none⟩ = some (.slice A n c) ∧ W.cell? ⟨w.heap.size, 1, none⟩ = some (.slice B m d) ∧ W.cell? ⟨w.heap.size, 2, none⟩ = some (.int .i64 q0) ∧ W.cell? ⟨w.heap.size, 3, none⟩ = some (.int .i64 q1) ∧ W.cell? ⟨w.heap.size, 4, none⟩ = some (.int .i64 q2) ∧ W.cell? ⟨w.heap.size, 5, none⟩ = some (.int .i64 q3) ∧ W.cell? ⟨b, off + k * 3, none⟩ = some (.slice NA nn nc) ∧ W.cell? ⟨b, off + k * 3 + 1, none⟩ = some (.slice MA mn mc) ∧ W.cell? ⟨b, off + k * 3 + 2, none⟩ = some (.bool it.2.2))
 clear hR
 clear hc0 hc1 hc2'
 by_cases h0 : bv = 0
 ·
  have HW := Lib.hid (show ptsV els q0 q1 q2 its k g = 0 by rw [HV.out, if_pos h0])
  subst h0
  clear HV
  go_enter Tryz.func149, Tryz.ntmps149
  go_wp2_with (first | (go_at_call 148; ((with_reducible refine (cb _ bl).mono ?_); rintro e w' ⟨rfl, y1, rfl⟩)))
  go_ret
  exact ⟨ret_int (by rw [HW.out]), ext_ex bl⟩
 ·
  have b0 : (bv == 0) = false := by simp [h0]
  have HW := Lib.hid (show ptsV els q0 q1 q2 its k g = roundV (ts * uv) (10 * (tn : Int)) by rw [HV.out, if_neg h0])
  have e1 : IntKind.i64.wrap (ts * uv) = ts * uv := IntWalk.i64_in _ (by omega)
  have e2 : IntKind.i64.wrap (10 * (tn : Int)) = 10 * (tn : Int) := IntWalk.i64_in _ (by omega)
  have cr := fun W => roundDiv_any (ts * uv) (10 * (tn : Int)) W (by omega) (by omega) (by omega) (by omega)
  clear HV
  go_enter Tryz.func149, Tryz.ntmps149
  go_wp2_with (first | (go_at_call 148; ((with_reducible refine (cb _ bl).mono ?_); rintro e w' ⟨rfl, y1, rfl⟩)) | (go_at_call 199; ((with_reducible refine (cm _ bl).mono ?_); rintro e w' ⟨rfl, y2, rfl⟩)))
  go_region_held3 (fun w' => w'.cell? ⟨w.heap.size, 0, none⟩ = some (.slice A n c) ∧ w'.cell? ⟨w.heap.size, 1, none⟩ = some (.slice B m d) ∧ w'.cell? ⟨w.heap.size, 2, none⟩ = some (.int .i64 q0) ∧ w'.cell? ⟨w.heap.size, 3, none⟩ = some (.int .i64 q1) ∧ w'.cell? ⟨w.heap.size, 4, none⟩ = some (.int .i64 q2) ∧ w'.cell? ⟨w.heap.size, 5, none⟩ = some (.int .i64 q3) ∧ w'.cell? ⟨b, off + k * 3, none⟩ = some (.slice NA nn nc) ∧ w'.cell? ⟨b, off + k * 3 + 1, none⟩ = some (.slice MA mn mc) ∧ w'.cell? ⟨b, off + k * 3 + 2, none⟩ = some (.bool it.2.2)) (exact hS _ bl) (first | (go_at_call 201; ((with_reducible refine (cu _ bl).mono ?_); rintro e w' ⟨rfl, y3, rfl⟩)) | (go_at_call 200; ((with_reducible refine (cr _).mono ?_); rintro e w' ⟨rfl, rfl⟩)))
  all_goals
   go_wp2
   go_ret
   exact ⟨ret_int (by rw [HW.out]), ext_ex bl⟩
set_option maxHeartbeats 1000000 in
theorem elOf_any (w : World) (A B : Option Addr) (n m c d : Nat) (els : List El) (q0 q1 q2 q3 : Int) (I : Option Addr) (n2 c2 : Nat) (its : List It) (k : Nat) (hG : GP w A n els q0 q1 q2 I n2 c2 its) (hk : k < n2) (G : Option Addr) (gn gc : Nat) (g : List Int) (hg : RdI w G gn g) (hgg : GrG g) :
  Calls Tryz.prog 208 #[.agg #[.slice A n c, .slice B m d, .int .i64 q0, .int .i64 q1, .int .i64 q2, .int .i64 q3], .slice I n2 c2, .int .i64 k, .slice G gn gc] w (fun e w' => e = .returned (.int .i64 (baseV els q0 q1 q2 its k + ptsV els q0 q1 q2 its k g)) ∧ ∃ y, w' = ext w y) := by
 have cb := fun W (h : Below w.heap.size w W) => bsItemG W A B n m c d els q0 q1 q2 q3 I n2 c2 its k (hG.below h) hk
 have cp := fun W (h : Below w.heap.size w W) => elPoints_any W A B n m c d els q0 q1 q2 q3 I n2 c2 its k (hG.below h) hk G gn gc g (hg.below h) hgg
 have hIk := hG.2.2.2.2 k (by rw [hG.2.1.len]; exact hk)
 have hb1 := base_bd (its := its) (k := k) hG.1.2.2 hIk
 have hb2 := pts_bd (its := its) (k := k) hG.1.2.2 hIk hgg
 clear hG hg hgg hIk
 generalize baseV els q0 q1 q2 its k = bv at *
 generalize ptsV els q0 q1 q2 its k g = pv at *
 have e1 : IntKind.i64.wrap (bv + pv) = bv + pv := IntWalk.i64_in _ (by omega)
 have hR : (w.alloc (.cells #[.slice A n c, .slice B m d, .int .i64 q0, .int .i64 q1, .int .i64 q2, .int .i64 q3] 39)).cell? ⟨w.heap.size, 0, none⟩ = some (.slice A n c) ∧ (w.alloc (.cells #[.slice A n c, .slice B m d, .int .i64 q0, .int .i64 q1, .int .i64 q2, .int .i64 q3] 39)).cell? ⟨w.heap.size, 1, none⟩ = some (.slice B m d) ∧ (w.alloc (.cells #[.slice A n c, .slice B m d, .int .i64 q0, .int .i64 q1, .int .i64 q2, .int .i64 q3] 39)).cell? ⟨w.heap.size, 2, none⟩ = some (.int .i64 q0) ∧ (w.alloc (.cells #[.slice A n c, .slice B m d, .int .i64 q0, .int .i64 q1, .int .i64 q2, .int .i64 q3] 39)).cell? ⟨w.heap.size, 3, none⟩ = some (.int .i64 q1) ∧ (w.alloc (.cells #[.slice A n c, .slice B m d, .int .i64 q0, .int .i64 q1, .int .i64 q2, .int .i64 q3] 39)).cell? ⟨w.heap.size, 4, none⟩ = some (.int .i64 q2) ∧ (w.alloc (.cells #[.slice A n c, .slice B m d, .int .i64 q0, .int .i64 q1, .int .i64 q2, .int .i64 q3] 39)).cell? ⟨w.heap.size, 5, none⟩ = some (.int .i64 q3) := by refine ⟨?_, ?_, ?_, ?_, ?_, ?_⟩ <;> first | assumption | simp [*, go_sem]
 have hS := fun (W : World) (h : Below (w.alloc (.cells #[.slice A n c, .slice B m d, .int .i64 q0, .int .i64 q1, .int .i64 q2, .int .i64 q3] 39)).heap.size (w.alloc (.cells #[.slice A n c, .slice B m d, .int .i64 q0, .int .i64 q1, .int .i64 q2, .int .i64 q3] 39)) W) => (⟨(h.cell (p := ⟨w.heap.size, 0, none⟩) (by first | assumption | (simp [go_sem]; done) | (simp [go_sem]; omega))).trans hR.1, (h.cell (p := ⟨w.heap.size, 1, none⟩) (by first | assumption | (simp [go_sem]; done) | (simp [go_sem]; omega))).trans hR.2.1, (h.cell (p := ⟨w.heap.size, 2, none⟩) (by first | assumption | (simp [go_sem]; done) | (simp [go_sem]; omega))).trans hR.2.2.1, (h.cell (p := ⟨w.heap.size, 3, none⟩) (by first | assumption | (simp [go_sem]; done) | (simp [go_sem]; omega))).trans hR.2.2.2.1, (h.cell (p := ⟨w.heap.size, 4, none⟩) (by first | assumption | (simp [go_sem]; done) | (simp [go_sem]; omega))).trans hR.2.2.2.2.1, (h.cell (p := ⟨w.heap.size, 5, none⟩) (by first | assumption | (simp [go_sem]; done) | (simp [go_sem]; omega))).trans hR.2.2.2.2.2⟩ : W.cell? ⟨w.heap.size, 0, none⟩ = some (.slice A n c) ∧ W.cell? ⟨w.heap.size, 1, none⟩ = some (.slice B m d) ∧ W.cell? ⟨w.heap.size, 2, none⟩ = some (.int .i64 q0) ∧ W.cell? ⟨w.heap.size, 3, none⟩ = some (.int .i64 q1) ∧ W.cell? ⟨w.heap.size, 4, none⟩ = some (.int .i64 q2) ∧ W.cell? ⟨w.heap.size, 5, none⟩ = some (.int .i64 q3))
 clear hR
 go_enter Tryz.func208, Tryz.ntmps208
 go_wp2
 go_region_held3 (fun w' => w'.cell? ⟨w.heap.size, 0, none⟩ = some (.slice A n c) ∧ w'.cell? ⟨w.heap.size, 1, none⟩ = some (.slice B m d) ∧ w'.cell? ⟨w.heap.size, 2, none⟩ = some (.int .i64 q0) ∧ w'.cell? ⟨w.heap.size, 3, none⟩ = some (.int .i64 q1) ∧ w'.cell? ⟨w.heap.size, 4, none⟩ = some (.int .i64 q2) ∧ w'.cell? ⟨w.heap.size, 5, none⟩ = some (.int .i64 q3)) (exact hS _ bl) (first | (go_at_call 155; ((with_reducible refine (cb _ bl).mono ?_); rintro e w' ⟨rfl, y1, rfl⟩)) | (go_at_call 254; ((with_reducible refine (cp _ bl).mono ?_); rintro e w' ⟨rfl, y2, rfl⟩)))
 all_goals
  go_wp2
  go_ret
  exact ⟨ret_int rfl, ext_ex bl⟩
set_option maxHeartbeats 1000000 in
theorem elScore_any (w : World) (A B : Option Addr) (n m c d : Nat) (els : List El) (q0 q1 q2 q3 : Int) (I : Option Addr) (n2 c2 : Nat) (its : List It) (k : Nat) (hG : GP w A n els q0 q1 q2 I n2 c2 its) (hk : k < n2) (GA KA : Option Addr) (gn gc kn kc : Nat) (gg : List (List Int)) (hg : RdM w GA gn gg) (hkg : k < gn) (hgg : GrG (gg[k]?.getD [])) :
  Calls Tryz.prog 156 #[.agg #[.slice A n c, .slice B m d, .int .i64 q0, .int .i64 q1, .int .i64 q2, .int .i64 q3], .slice I n2 c2, .agg #[.slice GA gn gc, .slice KA kn kc], .int .i64 k] w (fun e w' => e = .returned (.int .i64 (baseV els q0 q1 q2 its k + ptsV els q0 q1 q2 its k (gg[k]?.getD []))) ∧ ∃ y, w' = ext w y) := by
 obtain ⟨bg, og, RA, rn, rc, rfl, hbg, hcg, hr, _, _⟩ := hg.at_ k hkg
 have cp := fun W (h : Below w.heap.size w W) => elOf_any W A B n m c d els q0 q1 q2 q3 I n2 c2 its k (hG.below h) hk RA rn rc _ (hr.below h) hgg
 clear hG hg hgg hr
 generalize baseV els q0 q1 q2 its k + ptsV els q0 q1 q2 its k (gg[k]?.getD []) = v at *
 have hR : ((w.alloc (.cells #[.slice A n c, .slice B m d, .int .i64 q0, .int .i64 q1, .int .i64 q2, .int .i64 q3] 39)).alloc (.cells #[.slice (some ⟨bg, og, none⟩) gn gc, .slice KA kn kc] 30)).cell? ⟨w.heap.size, 0, none⟩ = some (.slice A n c) ∧ ((w.alloc (.cells #[.slice A n c, .slice B m d, .int .i64 q0, .int .i64 q1, .int .i64 q2, .int .i64 q3] 39)).alloc (.cells #[.slice (some ⟨bg, og, none⟩) gn gc, .slice KA kn kc] 30)).cell? ⟨w.heap.size, 1, none⟩ = some (.slice B m d) ∧ ((w.alloc (.cells #[.slice A n c, .slice B m d, .int .i64 q0, .int .i64 q1, .int .i64 q2, .int .i64 q3] 39)).alloc (.cells #[.slice (some ⟨bg, og, none⟩) gn gc, .slice KA kn kc] 30)).cell? ⟨w.heap.size, 2, none⟩ = some (.int .i64 q0) ∧ ((w.alloc (.cells #[.slice A n c, .slice B m d, .int .i64 q0, .int .i64 q1, .int .i64 q2, .int .i64 q3] 39)).alloc (.cells #[.slice (some ⟨bg, og, none⟩) gn gc, .slice KA kn kc] 30)).cell? ⟨w.heap.size, 3, none⟩ = some (.int .i64 q1) ∧ ((w.alloc (.cells #[.slice A n c, .slice B m d, .int .i64 q0, .int .i64 q1, .int .i64 q2, .int .i64 q3] 39)).alloc (.cells #[.slice (some ⟨bg, og, none⟩) gn gc, .slice KA kn kc] 30)).cell? ⟨w.heap.size, 4, none⟩ = some (.int .i64 q2) ∧ ((w.alloc (.cells #[.slice A n c, .slice B m d, .int .i64 q0, .int .i64 q1, .int .i64 q2, .int .i64 q3] 39)).alloc (.cells #[.slice (some ⟨bg, og, none⟩) gn gc, .slice KA kn kc] 30)).cell? ⟨w.heap.size, 5, none⟩ = some (.int .i64 q3) ∧ ((w.alloc (.cells #[.slice A n c, .slice B m d, .int .i64 q0, .int .i64 q1, .int .i64 q2, .int .i64 q3] 39)).alloc (.cells #[.slice (some ⟨bg, og, none⟩) gn gc, .slice KA kn kc] 30)).cell? ⟨w.heap.size + 1, 0, none⟩ = some (.slice (some ⟨bg, og, none⟩) gn gc) ∧ ((w.alloc (.cells #[.slice A n c, .slice B m d, .int .i64 q0, .int .i64 q1, .int .i64 q2, .int .i64 q3] 39)).alloc (.cells #[.slice (some ⟨bg, og, none⟩) gn gc, .slice KA kn kc] 30)).cell? ⟨bg, og + k, none⟩ = some (.slice RA rn rc) := by refine ⟨?_, ?_, ?_, ?_, ?_, ?_, ?_, ?_⟩ <;> first | assumption | simp [*, go_sem]
 have hS := fun (W : World) (h : Below ((w.alloc (.cells #[.slice A n c, .slice B m d, .int .i64 q0, .int .i64 q1, .int .i64 q2, .int .i64 q3] 39)).alloc (.cells #[.slice (some ⟨bg, og, none⟩) gn gc, .slice KA kn kc] 30)).heap.size ((w.alloc (.cells #[.slice A n c, .slice B m d, .int .i64 q0, .int .i64 q1, .int .i64 q2, .int .i64 q3] 39)).alloc (.cells #[.slice (some ⟨bg, og, none⟩) gn gc, .slice KA kn kc] 30)) W) => (⟨(h.cell (p := ⟨w.heap.size, 0, none⟩) (by first | assumption | (simp [go_sem]; done) | (simp [go_sem]; omega))).trans hR.1, (h.cell (p := ⟨w.heap.size, 1, none⟩) (by first | assumption | (simp [go_sem]; done) | (simp [go_sem]; omega))).trans hR.2.1, (h.cell (p := ⟨w.heap.size, 2, none⟩) (by first | assumption | (simp [go_sem]; done) | (simp [go_sem]; omega))).trans hR.2.2.1, (h.cell (p := ⟨w.heap.size, 3, none⟩) (by first | assumption | (simp [go_sem]; done) | (simp [go_sem]; omega))).trans hR.2.2.2.1, (h.cell (p := ⟨w.heap.size, 4, none⟩) (by first | assumption | (simp [go_sem]; done) | (simp [go_sem]; omega))).trans hR.2.2.2.2.1, (h.cell (p := ⟨w.heap.size, 5, none⟩) (by first | assumption | (simp [go_sem]; done) | (simp [go_sem]; omega))).trans hR.2.2.2.2.2.1, (h.cell (p := ⟨w.heap.size + 1, 0, none⟩) (by first | assumption | (simp [go_sem]; done) | (simp [go_sem]; omega))).trans hR.2.2.2.2.2.2.1, (h.cell (p := ⟨bg, og + k, none⟩) (by first | assumption | (simp [go_sem]; done) | (simp [go_sem]; omega))).trans hR.2.2.2.2.2.2.2⟩ : W.cell? ⟨w.heap.size, 0, none⟩ = some (.slice A n c) ∧ W.cell? ⟨w.heap.size, 1, none⟩ = some (.slice B m d) ∧ W.cell? ⟨w.heap.size, 2, none⟩ = some (.int .i64 q0) ∧ W.cell? ⟨w.heap.size, 3, none⟩ = some (.int .i64 q1) ∧ W.cell? ⟨w.heap.size, 4, none⟩ = some (.int .i64 q2) ∧ W.cell? ⟨w.heap.size, 5, none⟩ = some (.int .i64 q3) ∧ W.cell? ⟨w.heap.size + 1, 0, none⟩ = some (.slice (some ⟨bg, og, none⟩) gn gc) ∧ W.cell? ⟨bg, og + k, none⟩ = some (.slice RA rn rc))
 clear hR
 clear hcg
 go_enter Tryz.func156, Tryz.ntmps156
 go_wp2
 go_region_held3 (fun w' => w'.cell? ⟨w.heap.size, 0, none⟩ = some (.slice A n c) ∧ w'.cell? ⟨w.heap.size, 1, none⟩ = some (.slice B m d) ∧ w'.cell? ⟨w.heap.size, 2, none⟩ = some (.int .i64 q0) ∧ w'.cell? ⟨w.heap.size, 3, none⟩ = some (.int .i64 q1) ∧ w'.cell? ⟨w.heap.size, 4, none⟩ = some (.int .i64 q2) ∧ w'.cell? ⟨w.heap.size, 5, none⟩ = some (.int .i64 q3) ∧ w'.cell? ⟨w.heap.size + 1, 0, none⟩ = some (.slice (some ⟨bg, og, none⟩) gn gc) ∧ w'.cell? ⟨bg, og + k, none⟩ = some (.slice RA rn rc)) (exact hS _ bl) (first | (go_at_call 208; ((with_reducible refine (cp _ bl).mono ?_); rintro e w' ⟨rfl, y1, rfl⟩)))
 all_goals
  go_wp2
  go_ret
  exact ⟨ret_int rfl, ext_ex bl⟩
end Go.Proofs.YtmeaklaagglmeaaGreatDoor
namespace Go.Proofs.YtmeaklaagglmeaaGreatDoor
open Go.RowKit
def slipB (a b c : Int) : Bool := inB a 0 9 && (inB b 0 60 && inB c 0 500)
theorem dcGood_any (a b c : Int) (w : World) : Calls Tryz.prog 154 #[.agg #[.int .i64 a, .int .i64 b, .int .i64 c]] w fun e w' => e = .returned (.bool (slipB a b c)) ∧ ∃ y, w' = ext w y := by
 have c1 := fun W => l1In_any a 0 9 W
 have c2 := fun W => l1In_any b 0 60 W
 have c3 := fun W => l1In_any c 0 500 W
 have HE : Hid (slipB a b c = (inB a 0 9 && (inB b 0 60 && inB c 0 500))) := rfl
 generalize inB a 0 9 = q1 at *
 generalize inB b 0 60 = q2 at *
 generalize inB c 0 500 = q3 at *
 go_enter Tryz.func154, Tryz.ntmps154
 cases q1
 ·
  go_wp2_with (first | (go_at_call 87; ((with_reducible refine (c1 _).mono ?_); rintro e w' ⟨rfl, rfl⟩)) | (go_at_call 87; ((with_reducible refine (c2 _).mono ?_); rintro e w' ⟨rfl, rfl⟩)) | (go_at_call 87; ((with_reducible refine (c3 _).mono ?_); rintro e w' ⟨rfl, rfl⟩)))
  go_ret
  exact ⟨ret_bool (by rw [HE.out]; rfl), ext_ex bl⟩
 ·
  cases q2
  ·
   go_wp2_with (first | (go_at_call 87; ((with_reducible refine (c1 _).mono ?_); rintro e w' ⟨rfl, rfl⟩)) | (go_at_call 87; ((with_reducible refine (c2 _).mono ?_); rintro e w' ⟨rfl, rfl⟩)) | (go_at_call 87; ((with_reducible refine (c3 _).mono ?_); rintro e w' ⟨rfl, rfl⟩)))
   go_ret
   exact ⟨ret_bool (by rw [HE.out]; rfl), ext_ex bl⟩
  ·
   go_wp2_with (first | (go_at_call 87; ((with_reducible refine (c1 _).mono ?_); rintro e w' ⟨rfl, rfl⟩)) | (go_at_call 87; ((with_reducible refine (c2 _).mono ?_); rintro e w' ⟨rfl, rfl⟩)) | (go_at_call 87; ((with_reducible refine (c3 _).mono ?_); rintro e w' ⟨rfl, rfl⟩)))
   go_ret
   exact ⟨ret_bool (by rw [HE.out]; rfl), ext_ex bl⟩
theorem areSlips_any (a b c : Int) (w : World) : Calls Tryz.prog 147 #[.agg #[.int .i64 a, .int .i64 b, .int .i64 c]] w fun e w' => e = .returned (.bool (slipB a b c)) ∧ ∃ y, w' = ext w y := by
 have c1 := fun W => within_any a 0 9 W
 have c2 := fun W => within_any b 0 60 W
 have c3 := fun W => within_any c 0 500 W
 have HE : Hid (slipB a b c = (inB a 0 9 && (inB b 0 60 && inB c 0 500))) := rfl
 generalize inB a 0 9 = q1 at *
 generalize inB b 0 60 = q2 at *
 generalize inB c 0 500 = q3 at *
 go_enter Tryz.func147, Tryz.ntmps147
 cases q1
 ·
  go_wp2_with (first | (go_at_call 91; ((with_reducible refine (c1 _).mono ?_); rintro e w' ⟨rfl, rfl⟩)) | (go_at_call 91; ((with_reducible refine (c2 _).mono ?_); rintro e w' ⟨rfl, rfl⟩)) | (go_at_call 91; ((with_reducible refine (c3 _).mono ?_); rintro e w' ⟨rfl, rfl⟩)))
  go_ret
  exact ⟨ret_bool (by rw [HE.out]; rfl), ext_ex bl⟩
 ·
  cases q2
  ·
   go_wp2_with (first | (go_at_call 91; ((with_reducible refine (c1 _).mono ?_); rintro e w' ⟨rfl, rfl⟩)) | (go_at_call 91; ((with_reducible refine (c2 _).mono ?_); rintro e w' ⟨rfl, rfl⟩)) | (go_at_call 91; ((with_reducible refine (c3 _).mono ?_); rintro e w' ⟨rfl, rfl⟩)))
   go_ret
   exact ⟨ret_bool (by rw [HE.out]; rfl), ext_ex bl⟩
  ·
   go_wp2_with (first | (go_at_call 91; ((with_reducible refine (c1 _).mono ?_); rintro e w' ⟨rfl, rfl⟩)) | (go_at_call 91; ((with_reducible refine (c2 _).mono ?_); rintro e w' ⟨rfl, rfl⟩)) | (go_at_call 91; ((with_reducible refine (c3 _).mono ?_); rintro e w' ⟨rfl, rfl⟩)))
   go_ret
   exact ⟨ret_bool (by rw [HE.out]; rfl), ext_ex bl⟩
end Go.Proofs.YtmeaklaagglmeaaGreatDoor
namespace Go.Proofs.YtmeaklaagglmeaaGreatDoor
open Go.RowKit
def CodeR (w : World) (A : Option Addr) (n : Nat) (B : Option Addr) (m : Nat) (els : List El) (lims : List Int) : Prop :=
 RdEl w A n els ∧ RdI w B m lims ∧ n ≤ 1099511627776 ∧ m ≤ 1099511627776 ∧ ∀ x ∈ els, x.1.size ≤ 9223372036854775807
def ItsR (w : World) (I : Option Addr) (n2 c2 : Nat) (its : List It) : Prop := RdIt w I n2 its ∧ n2 ≤ 1099511627776 ∧ n2 ≤ c2 ∧ ∀ x ∈ its, itSmall x
theorem CodeR.below {w w' : World} {A : Option Addr} {n : Nat} {B : Option Addr} {m : Nat} {els : List El} {lims : List Int} (h : CodeR w A n B m els lims) (hb : Below w.heap.size w w') : CodeR w' A n B m els lims := ⟨h.1.below hb, h.2.1.below hb, h.2.2⟩
theorem ItsR.below {w w' : World} {I : Option Addr} {n2 c2 : Nat} {its : List It} (h : ItsR w I n2 c2 its) (hb : Below w.heap.size w w') : ItsR w' I n2 c2 its := ⟨h.1.below hb, h.2⟩
def progB (els : List El) (lims : List Int) (q0 q1 q2 q3 : Int) (its : List It) : Bool := codeB els lims q0 q1 q2 q3 && (itemsB its && knowB els its)
def mksB (gg kk : List (List Int)) (n : Nat) : Bool := marksB gg kk && decide (gg.length = n)
def judgedB (els : List El) (lims : List Int) (q0 q1 q2 q3 : Int) (its : List It) (gg kk : List (List Int)) : Bool := progB els lims q0 q1 q2 q3 its && mksB gg kk its.length
def perfB (els : List El) (lims : List Int) (q0 q1 q2 q3 : Int) (its : List It) (gg kk : List (List Int)) (s1 s2 s3 : Int) : Bool := judgedB els lims q0 q1 q2 q3 its gg kk && slipB s1 s2 s3
theorem mkGood_any (w : World) (GA KA : Option Addr) (gn gc kn kc : Nat) (gg kk : List (List Int)) (hm : RdMk w GA gn KA kn gg kk) (j : Nat) :
  Calls Tryz.prog 205 #[.agg #[.slice GA gn gc, .slice KA kn kc], .int .i64 j] w (fun e w' => e = .returned (.bool (mksB gg kk j)) ∧ ∃ y, w' = ext w y) := by
 have cm := fun W (h : Below w.heap.size w W) => mkAll_any W GA KA gn kn gc kc gg kk (hm.below h)
 have HV : Hid (mksB gg kk j = (marksB gg kk && decide (gn = j))) := by unfold Hid mksB; rw [hm.1.len]
 generalize marksB gg kk = b0 at *
 cases b0
 ·
  go_enter Tryz.func205, Tryz.ntmps205
  go_wp2_with (first | (go_at_call 163; ((with_reducible refine (cm _ bl).mono ?_); rintro e w' ⟨rfl, y, rfl⟩)))
  go_ret
  exact ⟨ret_bool (by rw [HV.out]; rfl), ext_ex bl⟩
 ·
  by_cases hj : gn = j
  ·
   obtain rfl := hj
   go_enter Tryz.func205, Tryz.ntmps205
   go_wp2_with (first | (go_at_call 163; ((with_reducible refine (cm _ bl).mono ?_); rintro e w' ⟨rfl, y, rfl⟩)))
   go_ret
   exact ⟨ret_bool (by rw [HV.out]; simp), ext_ex bl⟩
  ·
   have hjb : ((gn : Int) == (j : Int)) = false := by simp; omega
   go_enter Tryz.func205, Tryz.ntmps205
   go_wp2_with (first | (go_at_call 163; ((with_reducible refine (cm _ bl).mono ?_); rintro e w' ⟨rfl, y, rfl⟩)))
   go_ret
   exact ⟨ret_bool (by rw [HV.out]; simp [hj]), ext_ex bl⟩
theorem areMarks_any (w : World) (GA KA : Option Addr) (gn gc kn kc : Nat) (gg kk : List (List Int)) (hm : RdMk w GA gn KA kn gg kk) (j : Nat) :
  Calls Tryz.prog 245 #[.agg #[.slice GA gn gc, .slice KA kn kc], .int .i64 j] w (fun e w' => e = .returned (.bool (mksB gg kk j)) ∧ ∃ y, w' = ext w y) := by
 have cm := fun W (h : Below w.heap.size w W) => isMarks_any W GA KA gn kn gc kc gg kk (hm.below h)
 have HV : Hid (mksB gg kk j = (marksB gg kk && decide (gn = j))) := by unfold Hid mksB; rw [hm.1.len]
 generalize marksB gg kk = b0 at *
 cases b0
 ·
  go_enter Tryz.func245, Tryz.ntmps245
  go_wp2_with (first | (go_at_call 178; ((with_reducible refine (cm _ bl).mono ?_); rintro e w' ⟨rfl, y, rfl⟩)))
  go_ret
  exact ⟨ret_bool (by rw [HV.out]; rfl), ext_ex bl⟩
 ·
  by_cases hj : gn = j
  ·
   obtain rfl := hj
   go_enter Tryz.func245, Tryz.ntmps245
   go_wp2_with (first | (go_at_call 178; ((with_reducible refine (cm _ bl).mono ?_); rintro e w' ⟨rfl, y, rfl⟩)))
   go_ret
   exact ⟨ret_bool (by rw [HV.out]; simp), ext_ex bl⟩
  ·
   have hjb : ((gn : Int) == (j : Int)) = false := by simp; omega
   go_enter Tryz.func245, Tryz.ntmps245
   go_wp2_with (first | (go_at_call 178; ((with_reducible refine (cm _ bl).mono ?_); rintro e w' ⟨rfl, y, rfl⟩)))
   go_ret
   exact ⟨ret_bool (by rw [HV.out]; simp [hj]), ext_ex bl⟩
theorem bsGood_any (w : World) (A B : Option Addr) (n m c d : Nat) (els : List El) (lims : List Int) (q0 q1 q2 q3 : Int) (hc : CodeR w A n B m els lims) (I : Option Addr) (n2 c2 : Nat) (its : List It) (hi : ItsR w I n2 c2 its) :
  Calls Tryz.prog 204 #[.agg #[.slice A n c, .slice B m d, .int .i64 q0, .int .i64 q1, .int .i64 q2, .int .i64 q3], .slice I n2 c2] w (fun e w' => e = .returned (.bool (progB els lims q0 q1 q2 q3 its)) ∧ ∃ y, w' = ext w y) := by
 have cc := fun W (h : Below w.heap.size w W) => cdGood_any W A B n m c d els lims q0 q1 q2 q3 (hc.1.below h) (hc.2.1.below h) hc.2.2.1 hc.2.2.2.1 hc.2.2.2.2
 have ci := fun W (h : Below w.heap.size w W) => itList_any W I n2 c2 its (hi.1.below h) hi.2.1 hi.2.2.2
 have ck := fun W (h : Below w.heap.size w W) => bsKnows_any W A B n m c d els q0 q1 q2 q3 I n2 c2 its (hc.1.below h) hc.2.2.1 (hi.1.below h) hi.2.1 hi.2.2.2
 have HV : Hid (progB els lims q0 q1 q2 q3 its = (codeB els lims q0 q1 q2 q3 && (itemsB its && knowB els its))) := rfl
 clear hc hi
 generalize codeB els lims q0 q1 q2 q3 = b0 at *
 generalize itemsB its = b1 at *
 generalize knowB els its = b2 at *
 cases b0
 ·
  go_enter Tryz.func204, Tryz.ntmps204
  go_wp2_with (first | (go_at_call 49; ((with_reducible refine (cc _ bl).mono ?_); rintro e w' ⟨rfl, y, rfl⟩)) | (go_at_call 251; ((with_reducible refine (ci _ bl).mono ?_); rintro e w' ⟨rfl, y, rfl⟩)) | (go_at_call 252; ((with_reducible refine (ck _ bl).mono ?_); rintro e w' ⟨rfl, y, rfl⟩)))
  go_ret
  exact ⟨ret_bool (by rw [HV.out]; rfl), ext_ex bl⟩
 ·
  cases b1
  ·
   go_enter Tryz.func204, Tryz.ntmps204
   go_wp2_with (first | (go_at_call 49; ((with_reducible refine (cc _ bl).mono ?_); rintro e w' ⟨rfl, y, rfl⟩)) | (go_at_call 251; ((with_reducible refine (ci _ bl).mono ?_); rintro e w' ⟨rfl, y, rfl⟩)) | (go_at_call 252; ((with_reducible refine (ck _ bl).mono ?_); rintro e w' ⟨rfl, y, rfl⟩)))
   go_ret
   exact ⟨ret_bool (by rw [HV.out]; rfl), ext_ex bl⟩
  ·
   go_enter Tryz.func204, Tryz.ntmps204
   go_wp2_with (first | (go_at_call 49; ((with_reducible refine (cc _ bl).mono ?_); rintro e w' ⟨rfl, y, rfl⟩)) | (go_at_call 251; ((with_reducible refine (ci _ bl).mono ?_); rintro e w' ⟨rfl, y, rfl⟩)) | (go_at_call 252; ((with_reducible refine (ck _ bl).mono ?_); rintro e w' ⟨rfl, y, rfl⟩)))
   go_ret
   exact ⟨ret_bool (by rw [HV.out]; rfl), ext_ex bl⟩
theorem elGood_any (w : World) (A B : Option Addr) (n m c d : Nat) (els : List El) (lims : List Int) (q0 q1 q2 q3 : Int) (hc : CodeR w A n B m els lims) (I : Option Addr) (n2 c2 : Nat) (its : List It) (hi : ItsR w I n2 c2 its) (GA KA : Option Addr) (gn gc kn kc : Nat) (gg kk : List (List Int)) (hm : RdMk w GA gn KA kn gg kk) :
  Calls Tryz.prog 153 #[.agg #[.slice A n c, .slice B m d, .int .i64 q0, .int .i64 q1, .int .i64 q2, .int .i64 q3], .slice I n2 c2, .agg #[.slice GA gn gc, .slice KA kn kc]] w (fun e w' => e = .returned (.bool (judgedB els lims q0 q1 q2 q3 its gg kk)) ∧ ∃ y, w' = ext w y) := by
 have cb := fun W (h : Below w.heap.size w W) => bsGood_any W A B n m c d els lims q0 q1 q2 q3 (hc.below h) I n2 c2 its (hi.below h)
 have cm := fun W (h : Below w.heap.size w W) => mkGood_any W GA KA gn gc kn kc gg kk (hm.below h) n2
 have HV : Hid (judgedB els lims q0 q1 q2 q3 its gg kk = (progB els lims q0 q1 q2 q3 its && mksB gg kk n2)) := by unfold Hid judgedB; rw [hi.1.len]
 clear hc hi hm
 generalize progB els lims q0 q1 q2 q3 its = b0 at *
 generalize mksB gg kk n2 = b1 at *
 cases b0
 ·
  go_enter Tryz.func153, Tryz.ntmps153
  go_wp2_with (first | (go_at_call 204; ((with_reducible refine (cb _ bl).mono ?_); rintro e w' ⟨rfl, y, rfl⟩)) | (go_at_call 205; ((with_reducible refine (cm _ bl).mono ?_); rintro e w' ⟨rfl, y, rfl⟩)))
  go_ret
  exact ⟨ret_bool (by rw [HV.out]; rfl), ext_ex bl⟩
 ·
  go_enter Tryz.func153, Tryz.ntmps153
  go_wp2_with (first | (go_at_call 204; ((with_reducible refine (cb _ bl).mono ?_); rintro e w' ⟨rfl, y, rfl⟩)) | (go_at_call 205; ((with_reducible refine (cm _ bl).mono ?_); rintro e w' ⟨rfl, y, rfl⟩)))
  go_ret
  exact ⟨ret_bool (by rw [HV.out]; rfl), ext_ex bl⟩
theorem belong_any (w : World) (A B : Option Addr) (n m c d : Nat) (els : List El) (lims : List Int) (q0 q1 q2 q3 : Int) (hc : CodeR w A n B m els lims) (I : Option Addr) (n2 c2 : Nat) (its : List It) (hi : ItsR w I n2 c2 its) (GA KA : Option Addr) (gn gc kn kc : Nat) (gg kk : List (List Int)) (hm : RdMk w GA gn KA kn gg kk) :
  Calls Tryz.prog 196 #[.agg #[.slice A n c, .slice B m d, .int .i64 q0, .int .i64 q1, .int .i64 q2, .int .i64 q3], .slice I n2 c2, .agg #[.slice GA gn gc, .slice KA kn kc]] w (fun e w' => e = .returned (.bool (knowB els its && mksB gg kk n2)) ∧ ∃ y, w' = ext w y) := by
 have ck := fun W (h : Below w.heap.size w W) => isKnown_any W A B n m c d els q0 q1 q2 q3 I n2 c2 its (hc.1.below h) hc.2.2.1 (hi.1.below h) hi.2.1 hi.2.2.2
 have cm := fun W (h : Below w.heap.size w W) => areMarks_any W GA KA gn gc kn kc gg kk (hm.below h) n2
 have HV : Hid (true = true) := rfl
 clear hc hi hm
 generalize knowB els its = b0 at *
 generalize mksB gg kk n2 = b1 at *
 cases b0
 ·
  go_enter Tryz.func196, Tryz.ntmps196
  go_wp2_with (first | (go_at_call 244; ((with_reducible refine (ck _ bl).mono ?_); rintro e w' ⟨rfl, y, rfl⟩)) | (go_at_call 245; ((with_reducible refine (cm _ bl).mono ?_); rintro e w' ⟨rfl, y, rfl⟩)))
  go_ret
  exact ⟨ret_bool (by rfl), ext_ex bl⟩
 ·
  go_enter Tryz.func196, Tryz.ntmps196
  go_wp2_with (first | (go_at_call 244; ((with_reducible refine (ck _ bl).mono ?_); rintro e w' ⟨rfl, y, rfl⟩)) | (go_at_call 245; ((with_reducible refine (cm _ bl).mono ?_); rintro e w' ⟨rfl, y, rfl⟩)))
  go_ret
  exact ⟨ret_bool (by rfl), ext_ex bl⟩
theorem areJudged_any (w : World) (A B : Option Addr) (n m c d : Nat) (els : List El) (lims : List Int) (q0 q1 q2 q3 : Int) (hc : CodeR w A n B m els lims) (I : Option Addr) (n2 c2 : Nat) (its : List It) (hi : ItsR w I n2 c2 its) (GA KA : Option Addr) (gn gc kn kc : Nat) (gg kk : List (List Int)) (hm : RdMk w GA gn KA kn gg kk) :
  Calls Tryz.prog 146 #[.agg #[.slice A n c, .slice B m d, .int .i64 q0, .int .i64 q1, .int .i64 q2, .int .i64 q3], .slice I n2 c2, .agg #[.slice GA gn gc, .slice KA kn kc]] w (fun e w' => e = .returned (.bool (judgedB els lims q0 q1 q2 q3 its gg kk)) ∧ ∃ y, w' = ext w y) := by
 have cc := fun W (h : Below w.heap.size w W) => isCode_any W A B n m c d els lims q0 q1 q2 q3 (hc.1.below h) (hc.2.1.below h) hc.2.2.1 hc.2.2.2.1 hc.2.2.2.2
 have ci := fun W (h : Below w.heap.size w W) => areItems_any W I n2 c2 its (hi.1.below h) hi.2.1 hi.2.2.2
 have ck := fun W (h : Below w.heap.size w W) => belong_any W A B n m c d els lims q0 q1 q2 q3 (hc.below h) I n2 c2 its (hi.below h) GA KA gn gc kn kc gg kk (hm.below h)
 have HV : Hid (judgedB els lims q0 q1 q2 q3 its gg kk = (codeB els lims q0 q1 q2 q3 && (itemsB its && (knowB els its && mksB gg kk n2)))) := by unfold Hid judgedB progB; rw [hi.1.len]; simp only [Bool.and_assoc]
 clear hc hi hm
 generalize codeB els lims q0 q1 q2 q3 = b0 at *
 generalize itemsB its = b1 at *
 generalize (knowB els its && mksB gg kk n2) = b2 at *
 cases b0
 ·
  go_enter Tryz.func146, Tryz.ntmps146
  go_wp2_with (first | (go_at_call 54; ((with_reducible refine (cc _ bl).mono ?_); rintro e w' ⟨rfl, y, rfl⟩)) | (go_at_call 195; ((with_reducible refine (ci _ bl).mono ?_); rintro e w' ⟨rfl, y, rfl⟩)) | (go_at_call 196; ((with_reducible refine (ck _ bl).mono ?_); rintro e w' ⟨rfl, y, rfl⟩)))
  go_ret
  exact ⟨ret_bool (by rw [HV.out]; rfl), ext_ex bl⟩
 ·
  cases b1
  ·
   go_enter Tryz.func146, Tryz.ntmps146
   go_wp2_with (first | (go_at_call 54; ((with_reducible refine (cc _ bl).mono ?_); rintro e w' ⟨rfl, y, rfl⟩)) | (go_at_call 195; ((with_reducible refine (ci _ bl).mono ?_); rintro e w' ⟨rfl, y, rfl⟩)) | (go_at_call 196; ((with_reducible refine (ck _ bl).mono ?_); rintro e w' ⟨rfl, y, rfl⟩)))
   go_ret
   exact ⟨ret_bool (by rw [HV.out]; rfl), ext_ex bl⟩
  ·
   go_enter Tryz.func146, Tryz.ntmps146
   go_wp2_with (first | (go_at_call 54; ((with_reducible refine (cc _ bl).mono ?_); rintro e w' ⟨rfl, y, rfl⟩)) | (go_at_call 195; ((with_reducible refine (ci _ bl).mono ?_); rintro e w' ⟨rfl, y, rfl⟩)) | (go_at_call 196; ((with_reducible refine (ck _ bl).mono ?_); rintro e w' ⟨rfl, y, rfl⟩)))
   go_ret
   exact ⟨ret_bool (by rw [HV.out]; rfl), ext_ex bl⟩
theorem sgGood_any (w : World) (A B : Option Addr) (n m c d : Nat) (els : List El) (lims : List Int) (q0 q1 q2 q3 : Int) (hc : CodeR w A n B m els lims) (I : Option Addr) (n2 c2 : Nat) (its : List It) (hi : ItsR w I n2 c2 its) (GA KA : Option Addr) (gn gc kn kc : Nat) (gg kk : List (List Int)) (hm : RdMk w GA gn KA kn gg kk) (s1 s2 s3 : Int) :
  Calls Tryz.prog 93 #[.agg #[.slice A n c, .slice B m d, .int .i64 q0, .int .i64 q1, .int .i64 q2, .int .i64 q3], .agg #[.slice I n2 c2, .slice GA gn gc, .slice KA kn kc, .int .i64 s1, .int .i64 s2, .int .i64 s3]] w (fun e w' => e = .returned (.bool (perfB els lims q0 q1 q2 q3 its gg kk s1 s2 s3)) ∧ ∃ y, w' = ext w y) := by
 have ck := fun W (h : Below w.heap.size w W) => elGood_any W A B n m c d els lims q0 q1 q2 q3 (hc.below h) I n2 c2 its (hi.below h) GA KA gn gc kn kc gg kk (hm.below h)
 have cs := fun W => dcGood_any s1 s2 s3 W
 have HV : Hid (perfB els lims q0 q1 q2 q3 its gg kk s1 s2 s3 = (judgedB els lims q0 q1 q2 q3 its gg kk && slipB s1 s2 s3)) := rfl
 clear hc hi hm
 generalize judgedB els lims q0 q1 q2 q3 its gg kk = b0 at *
 generalize slipB s1 s2 s3 = b1 at *
 cases b0
 ·
  go_enter Tryz.func93, Tryz.ntmps93
  go_wp2_with (first | (go_at_call 153; ((with_reducible refine (ck _ bl).mono ?_); rintro e w' ⟨rfl, y, rfl⟩)) | (go_at_call 154; ((with_reducible refine (cs _).mono ?_); rintro e w' ⟨rfl, y, rfl⟩)))
  go_ret
  exact ⟨ret_bool (by rw [HV.out]; rfl), ext_ex bl⟩
 ·
  go_enter Tryz.func93, Tryz.ntmps93
  go_wp2_with (first | (go_at_call 153; ((with_reducible refine (ck _ bl).mono ?_); rintro e w' ⟨rfl, y, rfl⟩)) | (go_at_call 154; ((with_reducible refine (cs _).mono ?_); rintro e w' ⟨rfl, y, rfl⟩)))
  go_ret
  exact ⟨ret_bool (by rw [HV.out]; rfl), ext_ex bl⟩
theorem isPerformance_any (w : World) (A B : Option Addr) (n m c d : Nat) (els : List El) (lims : List Int) (q0 q1 q2 q3 : Int) (hc : CodeR w A n B m els lims) (I : Option Addr) (n2 c2 : Nat) (its : List It) (hi : ItsR w I n2 c2 its) (GA KA : Option Addr) (gn gc kn kc : Nat) (gg kk : List (List Int)) (hm : RdMk w GA gn KA kn gg kk) (s1 s2 s3 : Int) :
  Calls Tryz.prog 90 #[.agg #[.slice A n c, .slice B m d, .int .i64 q0, .int .i64 q1, .int .i64 q2, .int .i64 q3], .agg #[.slice I n2 c2, .slice GA gn gc, .slice KA kn kc, .int .i64 s1, .int .i64 s2, .int .i64 s3]] w (fun e w' => e = .returned (.bool (perfB els lims q0 q1 q2 q3 its gg kk s1 s2 s3)) ∧ ∃ y, w' = ext w y) := by
 have ck := fun W (h : Below w.heap.size w W) => areJudged_any W A B n m c d els lims q0 q1 q2 q3 (hc.below h) I n2 c2 its (hi.below h) GA KA gn gc kn kc gg kk (hm.below h)
 have cs := fun W => areSlips_any s1 s2 s3 W
 have HV : Hid (perfB els lims q0 q1 q2 q3 its gg kk s1 s2 s3 = (judgedB els lims q0 q1 q2 q3 its gg kk && slipB s1 s2 s3)) := rfl
 clear hc hi hm
 generalize judgedB els lims q0 q1 q2 q3 its gg kk = b0 at *
 generalize slipB s1 s2 s3 = b1 at *
 cases b0
 ·
  go_enter Tryz.func90, Tryz.ntmps90
  go_wp2_with (first | (go_at_call 146; ((with_reducible refine (ck _ bl).mono ?_); rintro e w' ⟨rfl, y, rfl⟩)) | (go_at_call 147; ((with_reducible refine (cs _).mono ?_); rintro e w' ⟨rfl, y, rfl⟩)))
  go_ret
  exact ⟨ret_bool (by rw [HV.out]; rfl), ext_ex bl⟩
 ·
  go_enter Tryz.func90, Tryz.ntmps90
  go_wp2_with (first | (go_at_call 146; ((with_reducible refine (ck _ bl).mono ?_); rintro e w' ⟨rfl, y, rfl⟩)) | (go_at_call 147; ((with_reducible refine (cs _).mono ?_); rintro e w' ⟨rfl, y, rfl⟩)))
  go_ret
  exact ⟨ret_bool (by rw [HV.out]; rfl), ext_ex bl⟩
end Go.Proofs.YtmeaklaagglmeaaGreatDoor
