/- Trimmed sums, sorting with the greatest first, and the unit of an item; plain. Conditions: none. -/
import Derived.Test.YtlfhhkgleapamaaGreatDoorRBase34
import Derived.Test.YtlfhhkgleapamaaGreatDoorRBase1s
import Derived.BigQuiet
import Derived.Test.YtlfhhkgleapamaaGreatDoorRBase0
set_option linter.unusedVariables false
set_option linter.unusedSimpArgs false
set_option maxRecDepth 100000
set_option maxHeartbeats 16000000
namespace Go.Proofs.YtlfhhkgleapamaaGreatDoor
open Go.Sort Go.RowKit
variable {q0 q1 q2 : Int} {it : It} {l : List Int} {k : Nat}
def negL (l : List Int) : List Int := l.map fun x => -x
theorem negL_get (l : List Int) (j : Nat) : (negL l)[j]?.getD 0 = -(l[j]?.getD 0) := by
 unfold negL;rw [List.getElem?_map]
 cases l[j]? <;> simp
theorem negL_neg (l : List Int) : negL (negL l) = l := by
 unfold negL;rw [List.map_map]
 conv => rhs; rw [<- List.map_id l]
 exact List.map_congr_left fun x _ => by simp
theorem negL_len (l : List Int) : (negL l).length = l.length := by simp [negL]
def desTo (l : List Int) (k : Nat) : List Int := negL (isortTo (negL l) k)
def insD (out : List Int) (x : Int) (m : Nat) : Nat := insK (negL out) (-x) m
theorem insD_step {out : List Int} {x : Int} (h : out[k]?.getD 0 < x) : insD out x (k + 1) = insD out x k := by
 unfold insD; exact insK_step (by rw [negL_get]; omega)
theorem insD_stop {out : List Int} {x : Int} (h : ¬ out[k]?.getD 0 < x) : insD out x (k + 1) = k + 1 := by
 unfold insD; exact insK_stop (by rw [negL_get]; omega)
theorem desTo_len (l : List Int) (k : Nat) (h : k <= l.length) : (desTo l k).length = k := by
 unfold desTo; rw [negL_len, isortTo_len _ _ (by rw [negL_len]; exact h)]
def insDL (out : List Int) (x : Int) : List Int := out.take (insD out x out.length) ++ [x] ++ out.drop (insD out x out.length)
theorem desTo_succ (l : List Int) (k : Nat) (h : k < l.length) : desTo l (k + 1) = insDL (desTo l k) (l[k]?.getD 0) := by
 unfold insDL;have e := isortTo_succ (negL l) k (by rw [negL_len]; exact h);unfold desTo;rw [e, insI, negL_get];unfold insD;rw [negL_neg, negL_len];generalize isortTo (negL l) k = o;generalize insK o (-(l[k]?.getD 0)) o.length = m;simp [negL, List.map_take, List.map_drop]
theorem minNeg (h : 0 < l.length) : Lib.minOf (negL l) = -Lib.maxOf l := by
 have h1 := maxOf_mem h;have h2 := minOf_mem (l := negL l) (by rw [negL_len]; exact h);have a := h2.2 (-Lib.maxOf l) (List.mem_map.2 ⟨_, h1.1, rfl⟩);obtain ⟨y, hy, e⟩ := List.mem_map.1 h2.1;have b := h1.2 y hy;omega
theorem maxNeg (h : 0 < l.length) : Lib.maxOf (negL l) = -Lib.minOf l := by
 have h1 := minOf_mem h;have h2 := maxOf_mem (l := negL l) (by rw [negL_len]; exact h);have a := h2.2 (-Lib.minOf l) (List.mem_map.2 ⟨_, h1.1, rfl⟩);obtain ⟨y, hy, e⟩ := List.mem_map.1 h2.1;have b := h1.2 y hy;omega
theorem desTo_first (h : 0 < l.length) : (desTo l l.length)[0]?.getD 0 = Lib.maxOf l := by
 unfold desTo;have e := isort_eq (negL l);rw [negL_len] at e;rw [negL_get, e, sortI_first (by rw [negL_len]; exact h), minNeg h];omega
theorem desTo_last (h : 0 < l.length) : (desTo l l.length)[l.length - 1]?.getD 0 = Lib.minOf l := by
 unfold desTo;have e := isort_eq (negL l);rw [negL_len] at e;have e2 := sortI_last (l := negL l) (by rw [negL_len]; exact h);rw [negL_len] at e2;rw [negL_get, e, e2, maxNeg h];omega
def trimS (l : List Int) : Int := if l.length < 5 then sumTo l l.length else sumTo l l.length - Lib.maxOf l - Lib.minOf l
def trimN (l : List Int) : Nat := if l.length < 5 then l.length else l.length - 2
theorem trimS_bd {c : Int} (hc : 0 <= c) (h0 : 0 < l.length) (hl : l.length <= 9) (hb : ∀ x ∈ l, -c <= x /\ x <= c) : -(c * 11) <= trimS l /\ trimS l <= c * 11 := by
 have h1 := sumTo_bd hc hb l.length;have m1 := hb _ (maxOf_mem h0).1;have m2 := hb _ (minOf_mem h0).1;have h3 : c * (l.length : Int) <= c * 9 := Int.mul_le_mul_of_nonneg_left Om hc;have h4 : c * 11 = c * 9 + c + c := Om;unfold trimS
 split <;> omega
theorem trimN_bd (h0 : 3 <= l.length) (hl : l.length <= 9) : 3 <= trimN l /\ trimN l <= 7 := by
 unfold trimN
 split <;> omega
theorem foldl_max0 (h0 : 0 < l.length) (h : ∀ x ∈ l, 0 <= x) : l.foldl max 0 = Lib.maxOf l := by
 have h1 := foldl_max_spec l 0;have h2 := maxOf_mem h0;have a := h1.2.1 _ h2.1
 rcases h1.2.2 with e | e
 ·
  have := h _ h2.1; omega
 ·
  have := h2.2 _ e; omega
def uMost (els : List El) (keep : Int) (it : It) (k : Nat) : Int := (wTo els keep it k).foldl max 0
theorem uMost_succ (els : List El) (keep : Int) (it : It) (k : Nat) : uMost els keep it (k + 1) = max (uMost els keep it k) (wAt els keep (nmAt it k) (mkAt it k)) := by
 unfold uMost; rw [wTo_succ, List.foldl_append]; rfl
def unitV (els : List El) (keep : Int) (it : It) : Int := Lib.maxOf (wTo els keep it it.1.length)
theorem uMost_all {els : List El} (hc : CodeG els q0 q1 q2) (hi : ItG els it) : uMost els q2 it it.1.length = unitV els q2 it := by
 unfold uMost unitV;refine foldl_max0 (by rw [wTo_len]; exact hi.1.1) (fun x hx => ?_);exact (wTo_bd hc hi _ (Nat.le_refl _) x hx).1
theorem unit_bd {els : List El} (hc : CodeG els q0 q1 q2) (hi : ItG els it) : 0 <= unitV els q2 it /\ unitV els q2 it <= 2000 :=
 wTo_bd hc hi _ (Nat.le_refl _) _ (maxOf_mem (l := wTo els q2 it it.1.length) (by rw [wTo_len]; exact hi.1.1)).1
def GrG (g : List Int) : Prop := (3 <= g.length /\ g.length <= 9) /\ ∀ x ∈ g, -5 <= x /\ x <= 5
def ptsV (els : List El) (q0 q1 q2 : Int) (its : List It) (k : Nat) (g : List Int) : Int :=
 if baseV els q0 q1 q2 its k = 0 then 0 else roundV (trimS g * unitV els q2 (its[k]?.getD zIt)) (10 * (trimN g : Int))
theorem pts_mul {els : List El} {g : List Int} (hc : CodeG els q0 q1 q2) (hi : ItG els it) (hg : GrG g) : -110000 <= trimS g * unitV els q2 it /\ trimS g * unitV els q2 it <= 110000 := by
 have h1 := trimS_bd (c := 5) Om (by have := hg.1; omega) hg.1.2 hg.2;have h2 := unit_bd hc hi;have := mul_bd (A := 55) (B := 2000) (a := trimS g) (b := unitV els q2 it) Om Om h2.1 h2.2;omega
theorem round_bd {a b A B : Int} (hb : 0 < b) (hB : b <= B) (h1 : -A <= a) (h2 : a <= A) (hA : 0 <= A) : -(2 * A + B) <= roundV a b /\ roundV a b <= 2 * A + B := by
 unfold roundV;exact down_bd Om Om Om Om
theorem pts_bd {els : List El} {its : List It} {g : List Int} (hc : CodeG els q0 q1 q2) (hi : ItG els (its[k]?.getD zIt)) (hg : GrG g) : -220100 <= ptsV els q0 q1 q2 its k g /\ ptsV els q0 q1 q2 its k g <= 220100 := by
 have h1 := pts_mul hc hi hg;have h2 := trimN_bd hg.1.1 hg.1.2;unfold ptsV
 split
 ·
  omega
 ·
  have := round_bd (A := 110000) (B := 100) (show 0 < 10 * (trimN g : Int) by omega) Om h1.1 h1.2 Om;omega
theorem grown_cellT {w w' : World} {row : Option Nat} (h : w.grownBy w' row) {b o : Nat} (hb : b < w.heap.size) (hne : some b ≠ row) : w'.cell? ⟨b, o, none⟩ = w.cell? ⟨b, o, none⟩ := by
 have := h.block b hb hne;unfold World.cell?;rw [this]
theorem poSorted_any (w : World) (A : OA) (n c : Nat) (l : List Int) (ha : RdI w A n l) (hn : n < 1099511627776) :
  Calls Tryz.prog 257 #[.slice A n c] w (RetI w (desTo l n)) := by
 have Hl := Lib.hid ha.len;go_enter Tryz.func257, Tryz.ntmps257;go_wp2
 go_loopw [3, 9] (fun v i wr => ∃ (k : Nat) (B : OA) (d : Nat) (x : World), k <= n /\ i = .int .i64 k /\ v = .slice B k d /\ wr = ext w x /\ OwI w.heap.size (ext w x) B k d (desTo l k) /\ (k = 0 -> B = none /\ d = 0)) (fun _ i _ => n - (intOf i).toNat)
 case atStart => exact ⟨0, none, 0, _, Om, rfl, rfl, ext_self w, OwI.nil_, fun _ => ⟨rfl, rfl⟩⟩
 case round =>
  obtain ⟨k, B, d, x, hk, rfl, rfl, rfl, ho, hz⟩ := hrel;by_cases hlt : k < n
  ·
   obtain ⟨b, off, rfl, hb, hc⟩ := ha.open_ Om;have hck := hc k hlt;rw [List.getD_eq_getElem?_getD] at hck;clear hc;have HS := desTo_succ l k (by rw [Hl.out]; exact hlt);have hol := desTo_len l k (by rw [Hl.out]; exact hk);generalize l[k]?.getD 0 = y at *;generalize desTo l k = out at *;have HS := Lib.hid HS;have hrd := ho.rd;by_cases hk0 : k = 0
   ·
    subst hk0;rw [Nat.add_zero] at hck;obtain ⟨rfl, rfl⟩ := hz rfl;have hout : out = [] := List.eq_nil_of_length_eq_zero hol;subst hout;clear hz hol;generalize hov : ([] : List Int) = out at *;have hol : out.length = 0 := by rw [<- hov]; rfl
    clear hov;go_wp2
    go_loop [6] (fun t => t = .int .i64 0) (fun t => (intOf t).toNat)
    case atStart => rfl
    case round =>
     subst hrel;have HI := Lib.hid (show desTo l (0 + 1) = out.take (0) ++ [y] ++ out.drop (0) by rw [HS.out, insDL, hol, show insD out y 0 = 0 from rfl]);have hr1 := hrd.take_ (0) Om;have hr2 := hrd;have htl : (out.take (0)).length = 0 := by rw [List.length_take]; omega
     have hjb : (0) <= 1099511627776 := Om;have o0a := OwI.lit_ (Below.refl _ (ext w x)) [] (by simp [maxLen]) #[] rfl;have o0b : OwI (ext w x).heap.size (((ext w x).alloc (.cells #[.int .i64 y] 3)).alloc (.cells #[] 3)) (some ⟨(ext w x).heap.size + 1, 0, none⟩) 0 0 [] := by simpa using OwI.lit_ (bAlloc (Below.refl _ (ext w x)) (.cells #[.int .i64 y] 3)) [] (by simp [maxLen]) #[] rfl
     go_wp2
     go_region_law (first | (refine step_app_int (ext w x) rfl _ _ rfl _ _ _ [] rfl o0a ?_ ?_ _ _ _ (out.take (0)) rfl hr1 ?_ Om ?_; exact bL; exact bL; exact bL; intro A1 c1 y1 o1 hg1 hd1; rw [Nat.zero_add] at o1) | (refine step_app_int (ext w x) rfl _ _ rfl _ _ _ [] rfl o0b ?_ ?_ _ _ _ (out.take (0)) rfl hr1 ?_ Om ?_; exact bL; exact bL; exact bL; intro A1 c1 y1 o1 hg1 hd1; rw [Nat.zero_add] at o1) | (refine step_app_int (ext w x) rfl _ _ rfl A1 _ c1 ([] ++ out.take (0)) rfl o1 ?_ ?_ _ 1 1 [y] rfl (RdI.one_ ?_ ?_) bR Om ?_; exact bL; exact bL; (focus (simp [go_sem]; done)); (focus (simp [go_sem]; done)); intro A2 c2 y2 o2 hg2 hd2) | (refine step_app_int (ext w x) rfl _ _ rfl A1 _ c1 ([] ++ out.take (0)) rfl o1 ?_ ?_ _ 1 1 [y] rfl (RdI.one_ ?_ ?_) bR Om ?_; exact bL; exact bL; (focus (first | (simp; done) | (have := hg1.size; simp at this ⊢; omega))); (focus (rw [grown_cellT hg1 (by first | (simp; done) | (simp; omega)) (by simp [blkOf])]; simp [go_sem]; done)); intro A2 c2 y2 o2 hg2 hd2) | (refine step_app_int (ext w x) rfl _ _ rfl A2 _ c2 ([] ++ out.take (0) ++ [y]) rfl o2 ?_ ?_ _ _ _ (out.drop (0)) rfl hr2 ?_ Om ?_; exact bL; exact bL; exact bL; intro A3 c3 y3 o3 hg3 hd3))
     all_goals
      go_wp2;obtain ⟨q, hq⟩ := ext_ex (show Below w.heap.size w (ext (ext w x) y3) from bL);have o4 := o3.mono (ext_le w x);rw [List.nil_append, <- HI.out, hq] at o4;have hln := o4.len.symm.trans (desTo_len l (0 + 1) (by rw [Hl.out]; omega));rw [hln] at o4;have o5 := o4;have Hln := Lib.hid hln;clear hln;clear o4 o3 hg3 hd3 hg2 hd2 hg1 hd1 o1 o2;go_roundw
      case rel => exact ⟨0 + 1, A3, c3, q, Om, by go_num, congrArg (fun z => Value.slice A3 z c3) (by have := Hln.out; omega), hq, o5, fun h => by omega⟩
      case measure => simp [intOf]; omega
   ·
    obtain ⟨g, rfl, hgb, hgl⟩ := ho.form_ Om;have hkd := ho.cap_.1;clear hz;go_wp2
    go_loop [6] (fun t => ∃ j : Nat, j <= k /\ t = .int .i64 j /\ Hid (insD out y k = insD out y j)) (fun t => (intOf t).toNat)
    case atStart => exact ⟨k, Nat.le_refl _, rfl, rfl⟩
    case round =>
     obtain ⟨j, hj, rfl, HK⟩ := hrel
     rcases Nat.eq_zero_or_pos j with hj0 | hj0
     ·
      subst hj0;have HK0 := Lib.hid (show insD out y k = 0 from HK.out);have hd0 : ((0 : Nat) : Int) <= d := Om;have HI := Lib.hid (show desTo l (k + 1) = out.take (0) ++ [y] ++ out.drop (0) by rw [HS.out, insDL, hol, HK0.out]);have hr1 := hrd.take_ (0) Om;have hr2 := hrd.drop_ (0) Om;have htl : (out.take (0)).length = 0 := by rw [List.length_take]; omega
      have hjb : (0) <= 1099511627776 := Om;have o0a := OwI.lit_ (Below.refl _ (ext w x)) [] (by simp [maxLen]) #[] rfl;have o0b : OwI (ext w x).heap.size (((ext w x).alloc (.cells #[.int .i64 y] 3)).alloc (.cells #[] 3)) (some ⟨(ext w x).heap.size + 1, 0, none⟩) 0 0 [] := by simpa using OwI.lit_ (bAlloc (Below.refl _ (ext w x)) (.cells #[.int .i64 y] 3)) [] (by simp [maxLen]) #[] rfl
      go_wp2
      go_region_law (first | (refine step_app_int (ext w x) rfl _ _ rfl _ _ _ [] rfl o0a ?_ ?_ _ _ _ (out.take (0)) rfl hr1 ?_ Om ?_; exact bL; exact bL; exact bL; intro A1 c1 y1 o1 hg1 hd1; rw [Nat.zero_add] at o1) | (refine step_app_int (ext w x) rfl _ _ rfl _ _ _ [] rfl o0b ?_ ?_ _ _ _ (out.take (0)) rfl hr1 ?_ Om ?_; exact bL; exact bL; exact bL; intro A1 c1 y1 o1 hg1 hd1; rw [Nat.zero_add] at o1) | (refine step_app_int (ext w x) rfl _ _ rfl A1 _ c1 ([] ++ out.take (0)) rfl o1 ?_ ?_ _ 1 1 [y] rfl (RdI.one_ ?_ ?_) bR Om ?_; exact bL; exact bL; (focus (simp [go_sem]; done)); (focus (simp [go_sem]; done)); intro A2 c2 y2 o2 hg2 hd2) | (refine step_app_int (ext w x) rfl _ _ rfl A1 _ c1 ([] ++ out.take (0)) rfl o1 ?_ ?_ _ 1 1 [y] rfl (RdI.one_ ?_ ?_) bR Om ?_; exact bL; exact bL; (focus (first | (simp; done) | (have := hg1.size; simp at this ⊢; omega))); (focus (rw [grown_cellT hg1 (by first | (simp; done) | (simp; omega)) (by simp [blkOf])]; simp [go_sem]; done)); intro A2 c2 y2 o2 hg2 hd2) | (refine step_app_int (ext w x) rfl _ _ rfl A2 _ c2 ([] ++ out.take (0) ++ [y]) rfl o2 ?_ ?_ _ _ _ (out.drop (0)) rfl hr2 ?_ Om ?_; exact bL; exact bL; exact bL; intro A3 c3 y3 o3 hg3 hd3))
      all_goals
       go_wp2;obtain ⟨q, hq⟩ := ext_ex (show Below w.heap.size w (ext (ext w x) y3) from bL);have o4 := o3.mono (ext_le w x);rw [List.nil_append, <- HI.out, hq] at o4;have hln := o4.len.symm.trans (desTo_len l (k + 1) (by rw [Hl.out]; omega));rw [hln] at o4;have o5 := o4;have Hln := Lib.hid hln;clear hln;clear o4 o3 hg3 hd3 hg2 hd2 hg1 hd1 o1 o2;go_roundw
       case rel => exact ⟨k + 1, A3, c3, q, Om, by go_num, congrArg (fun z => Value.slice A3 z c3) (by have := Hln.out; omega), hq, o5, fun h => by omega⟩
       case measure => simp [intOf]; omega
     ·
      obtain ⟨j, rfl⟩ : ∃ i, j = i + 1 := ⟨j - 1, Om⟩;have hcj := ho.cell_ j Om;obtain ⟨z, hz⟩ : ∃ z, out[j]?.getD 0 = z := ⟨_, rfl⟩;rw [hz] at hcj;have HZ := Lib.hid hz;clear hz;by_cases hlt2 : z < y
      ·
       have HKn := Lib.hid (show insD out y k = insD out y j by rw [HK.out, insD_step (by rw [HZ.out]; exact hlt2)]);go_wp2
       go_round
       case rel => exact ⟨j, Om, by go_num, HKn⟩
       case measure => simp [intOf]
      ·
       have HKn := Lib.hid (show insD out y k = j + 1 by rw [HK.out, insD_stop (by rw [HZ.out]; exact hlt2)]);have hd1 : (j : Int) + 1 <= d := Om;have hj00 : (0 : Int) <= (j : Int) + 1 := Om;have hk1 : (j : Int) + 1 <= k := Om;by_cases hjd : d = j + 1
       ·
        have hjk : k = j + 1 := Om;subst hjk;subst hjd;have HI := Lib.hid (show desTo l (j + 1 + 1) = out.take (j + 1) ++ [y] ++ out.drop (j + 1) by rw [HS.out, insDL, hol, HKn.out]);have hr1 := hrd.take_ (j + 1) Om;have hr2 : RdI (ext w x) (some ⟨g, 0, none⟩) 0 (out.drop (j + 1)) := by rw [List.drop_of_length_le Om]; exact RdI.nil_
        have htl : (out.take (j + 1)).length = j + 1 := by rw [List.length_take]; omega
        have hjb : (j + 1) <= 1099511627776 := Om;have o0a := OwI.lit_ (Below.refl _ (ext w x)) [] (by simp [maxLen]) #[] rfl;have o0b : OwI (ext w x).heap.size (((ext w x).alloc (.cells #[.int .i64 y] 3)).alloc (.cells #[] 3)) (some ⟨(ext w x).heap.size + 1, 0, none⟩) 0 0 [] := by simpa using OwI.lit_ (bAlloc (Below.refl _ (ext w x)) (.cells #[.int .i64 y] 3)) [] (by simp [maxLen]) #[] rfl
        go_wp2
        go_region_law (first | (refine step_app_int (ext w x) rfl _ _ rfl _ _ _ [] rfl o0a ?_ ?_ _ _ _ (out.take (j + 1)) rfl hr1 ?_ Om ?_; exact bL; exact bL; exact bL; intro A1 c1 y1 o1 hg1 hd1; rw [Nat.zero_add] at o1) | (refine step_app_int (ext w x) rfl _ _ rfl _ _ _ [] rfl o0b ?_ ?_ _ _ _ (out.take (j + 1)) rfl hr1 ?_ Om ?_; exact bL; exact bL; exact bL; intro A1 c1 y1 o1 hg1 hd1; rw [Nat.zero_add] at o1) | (refine step_app_int (ext w x) rfl _ _ rfl A1 _ c1 ([] ++ out.take (j + 1)) rfl o1 ?_ ?_ _ 1 1 [y] rfl (RdI.one_ ?_ ?_) bR Om ?_; exact bL; exact bL; (focus (simp [go_sem]; done)); (focus (simp [go_sem]; done)); intro A2 c2 y2 o2 hg2 hd2) | (refine step_app_int (ext w x) rfl _ _ rfl A1 _ c1 ([] ++ out.take (j + 1)) rfl o1 ?_ ?_ _ 1 1 [y] rfl (RdI.one_ ?_ ?_) bR Om ?_; exact bL; exact bL; (focus (first | (simp; done) | (have := hg1.size; simp at this ⊢; omega))); (focus (rw [grown_cellT hg1 (by first | (simp; done) | (simp; omega)) (by simp [blkOf])]; simp [go_sem]; done)); intro A2 c2 y2 o2 hg2 hd2) | (refine step_app_int (ext w x) rfl _ _ rfl A2 _ c2 ([] ++ out.take (j + 1) ++ [y]) rfl o2 ?_ ?_ _ _ _ (out.drop (j + 1)) rfl hr2 ?_ Om ?_; exact bL; exact bL; exact bL; intro A3 c3 y3 o3 hg3 hd3))
        all_goals
         go_wp2;obtain ⟨q, hq⟩ := ext_ex (show Below w.heap.size w (ext (ext w x) y3) from bL);have o4 := o3.mono (ext_le w x);rw [List.nil_append, <- HI.out, hq] at o4;have hln := o4.len.symm.trans (desTo_len l (j + 1 + 1) (by rw [Hl.out]; omega));rw [hln] at o4;have o5 := o4;have Hln := Lib.hid hln;clear hln;clear o4 o3 hg3 hd3 hg2 hd2 hg1 hd1 o1 o2;go_roundw
         case rel => exact ⟨j + 1 + 1, A3, c3, q, Om, by go_num, congrArg (fun z => Value.slice A3 z c3) (by have := Hln.out; omega), hq, o5, fun h => by omega⟩
         case measure => simp [intOf]; omega
       ·
        have hjd' : ¬ (d : Int) = j + 1 := Om;have HI := Lib.hid (show desTo l (k + 1) = out.take (j + 1) ++ [y] ++ out.drop (j + 1) by rw [HS.out, insDL, hol, HKn.out]);have hr1 := hrd.take_ (j + 1) Om;have hr2 := hrd.drop_ (j + 1) Om;rw [Nat.zero_add] at hr2;have htl : (out.take (j + 1)).length = j + 1 := by rw [List.length_take]; omega
        have hjb : (j + 1) <= 1099511627776 := Om;have o0a := OwI.lit_ (Below.refl _ (ext w x)) [] (by simp [maxLen]) #[] rfl;have o0b : OwI (ext w x).heap.size (((ext w x).alloc (.cells #[.int .i64 y] 3)).alloc (.cells #[] 3)) (some ⟨(ext w x).heap.size + 1, 0, none⟩) 0 0 [] := by simpa using OwI.lit_ (bAlloc (Below.refl _ (ext w x)) (.cells #[.int .i64 y] 3)) [] (by simp [maxLen]) #[] rfl
        go_wp2
        go_region_law (first | (refine step_app_int (ext w x) rfl _ _ rfl _ _ _ [] rfl o0a ?_ ?_ _ _ _ (out.take (j + 1)) rfl hr1 ?_ Om ?_; exact bL; exact bL; exact bL; intro A1 c1 y1 o1 hg1 hd1; rw [Nat.zero_add] at o1) | (refine step_app_int (ext w x) rfl _ _ rfl _ _ _ [] rfl o0b ?_ ?_ _ _ _ (out.take (j + 1)) rfl hr1 ?_ Om ?_; exact bL; exact bL; exact bL; intro A1 c1 y1 o1 hg1 hd1; rw [Nat.zero_add] at o1) | (refine step_app_int (ext w x) rfl _ _ rfl A1 _ c1 ([] ++ out.take (j + 1)) rfl o1 ?_ ?_ _ 1 1 [y] rfl (RdI.one_ ?_ ?_) bR Om ?_; exact bL; exact bL; (focus (simp [go_sem]; done)); (focus (simp [go_sem]; done)); intro A2 c2 y2 o2 hg2 hd2) | (refine step_app_int (ext w x) rfl _ _ rfl A1 _ c1 ([] ++ out.take (j + 1)) rfl o1 ?_ ?_ _ 1 1 [y] rfl (RdI.one_ ?_ ?_) bR Om ?_; exact bL; exact bL; (focus (first | (simp; done) | (have := hg1.size; simp at this ⊢; omega))); (focus (rw [grown_cellT hg1 (by first | (simp; done) | (simp; omega)) (by simp [blkOf])]; simp [go_sem]; done)); intro A2 c2 y2 o2 hg2 hd2) | (refine step_app_int (ext w x) rfl _ _ rfl A2 _ c2 ([] ++ out.take (j + 1) ++ [y]) rfl o2 ?_ ?_ _ _ _ (out.drop (j + 1)) rfl hr2 ?_ Om ?_; exact bL; exact bL; exact bL; intro A3 c3 y3 o3 hg3 hd3))
        all_goals
         go_wp2;obtain ⟨q, hq⟩ := ext_ex (show Below w.heap.size w (ext (ext w x) y3) from bL);have o4 := o3.mono (ext_le w x);rw [List.nil_append, <- HI.out, hq] at o4;have hln := o4.len.symm.trans (desTo_len l (k + 1) (by rw [Hl.out]; omega));rw [hln] at o4;have o5 := o4;have Hln := Lib.hid hln;clear hln;clear o4 o3 hg3 hd3 hg2 hd2 hg1 hd1 o1 o2;go_roundw
         case rel => exact ⟨k + 1, A3, c3, q, Om, by go_num, congrArg (fun z => Value.slice A3 z c3) (by have := Hln.out; omega), hq, o5, fun h => by omega⟩
         case measure => simp [intOf]; omega
  ·
   have hkn := Lib.hid (show k = n by omega);rw [hkn.out] at ho;go_wp2;go_ret;rw [hkn.out];exact RetI.mk_ ho (Nat.le_refl _) (ext_below _ _)
theorem l1MostU_any (a b : Int) (w : World) : Calls Tryz.prog 143 #[.int .i64 a, .int .i64 b] w fun e w' => e = .returned (.int .i64 (max a b)) /\ w = w' := by
 by_cases h : b < a
 ·
  rw [show max a b = a by omega];go_enter Tryz.func143, Tryz.ntmps143;go_wp2;go_ret;exact ⟨rfl, rfl⟩
 ·
  rw [show max a b = b by omega];go_enter Tryz.func143, Tryz.ntmps143;go_wp2;go_ret;exact ⟨rfl, rfl⟩
theorem poSum_any (w : World) (A : OA) (n c : Nat) (l : List Int) (ha : RdI w A n l) (hn : n <= 1000) (hb : ∀ x ∈ l, -100000 <= x /\ x <= 100000) :
  Calls Tryz.prog 192 #[.slice A n c] w fun e w' => e = .returned (.int .i64 (sumTo l n)) /\ w = w' := by
 have Hl := Lib.hid ha.len;go_enter Tryz.func192, Tryz.ntmps192;go_wp2
 go_loop [3, 5, 8] (fun t _ i => ∃ k : Nat, k <= n /\ i = .int .i64 k /\ t = .int .i64 (sumTo l k)) (fun _ _ i => n - (intOf i).toNat)
 case atStart => exact ⟨0, Om, rfl, rfl⟩
 case round =>
  obtain ⟨k, hk, rfl, rfl⟩ := hrel;by_cases hlt : k < n
  ·
   obtain ⟨b, off, rfl, hb0, hc⟩ := ha.open_ Om;have hck := hc k hlt;rw [List.getD_eq_getElem?_getD] at hck;have h1 := sumTo_bd Om hb k;have h2 := hb _ (getD_mem 0 l k (by rw [Hl.out]; exact hlt));have HS := Lib.hid (sumTo_succ l k (by rw [Hl.out]; exact hlt));clear hc;generalize l[k]?.getD 0 = x at *;generalize sumTo l k = s at *;go_wp2
   go_round
   case rel => exact ⟨k + 1, Om, by go_num, by rw [HS.out]⟩
   case measure => simp [intOf]; omega
  ·
   have hkn := Lib.hid (show k = n by omega);go_wp2;go_ret;exact ⟨ret_int (by rw [hkn.out]), rfl⟩
theorem tmMean_any (w : World) (A : OA) (n c : Nat) (l : List Int) (ha : RdI w A n l) (h0 : 0 < n) (hn : n <= 1000) (hb : ∀ x ∈ l, -100000 <= x /\ x <= 100000) :
  Calls Tryz.prog 241 #[.slice A n c] w (fun e w' => e = .returned (.tuple #[.int .i64 (trimS l), .int .i64 (trimN l : Nat)]) /\ ∃ y, w' = ext w y) := by
 have hl := ha.len;have h1 := sumTo_bd (c := 100000) Om hb n;have Hm := maxOf_mem (l := l) Om;have Hi := minOf_mem (l := l) Om;have m1 := hb _ Hm.1;have m2 := hb _ Hi.1;have HS : Hid (trimS l = if n < 5 then sumTo l n else sumTo l n - Lib.maxOf l - Lib.minOf l) := by unfold Hid trimS; rw [hl]
 have HN : Hid (trimN l = if n < 5 then n else n - 2) := by unfold Hid trimN; rw [hl]
 have cs := fun W h => poSum_any W A n c l (ha.below h) hn hb
 have ct := fun W h => poSorted_any W A n c l (ha.below h) Om
 have HF := Lib.hid (show (desTo l n)[0]?.getD 0 = Lib.maxOf l by rw [<- hl]; exact desTo_first Om);have HL := Lib.hid (show (desTo l n)[n - 1]?.getD 0 = Lib.minOf l by rw [<- hl]; exact desTo_last Om);have hdl := desTo_len l n Om;clear Hm Hi hb hl;generalize Lib.maxOf l = mx at *;generalize Lib.minOf l = mi at *;generalize sumTo l n = s at *;generalize desTo l n = out at *;by_cases h5 : n < 5
 ·
  have h5I : (n : Int) < 5 := Om;go_enter Tryz.func241, Tryz.ntmps241;go_wp2_with (first | (go_at_call 192; (with_reducible refine ep (cs _ bL) ?_)))
  go_ret2;exact ⟨ret_int2 (by rw [HS.out, if_pos h5]) (by rw [HN.out, if_pos h5]), ext_ex bL⟩
 ·
  have h5I : ¬ (n : Int) < 5 := Om;have HS2 := Lib.hid (show trimS l = s - mx - mi by rw [HS.out, if_neg h5]);have HN2 := Lib.hid (show ((trimN l : Nat) : Int) = (n : Int) - 2 by rw [HN.out, if_neg h5]; omega);have e1 : IntKind.i64.wrap (s - mx) = s - mx := IntWalk.i64_in _ Om;have e2 : IntKind.i64.wrap (s - mx - mi) = s - mx - mi := IntWalk.i64_in _ Om;have e3 : IntKind.i64.wrap ((n : Int) - 2) = (n : Int) - 2 := IntWalk.i64_in _ Om;have e4 : IntKind.i64.wrap ((n : Int) - 1) = ((n - 1 : Nat) : Int) := by rw [IntWalk.i64_in _ Om]; omega
  have hn1 : n - 1 < n := Om;have hn1I : ((n - 1 : Nat) : Int) < n := Om;clear HS HN;go_enter Tryz.func241, Tryz.ntmps241;go_wp2_with (first | (go_at_call 192; (with_reducible refine ep (cs _ bL) ?_)) | (go_at_call 257; ((with_reducible refine (ct _ bL).mono ?_); rintro e w' ⟨A1, n1, c1, x1, rfl, rfl, o1⟩; (obtain rfl : n = n1 := hdl.symm.trans o1.len))))
  obtain ⟨g, rfl, hg1, hg2⟩ := o1.form_ Om;have k0 := o1.cell_ 0 Om;have k1 := o1.cell_ (n - 1) Om;rw [HF.out] at k0;rw [HL.out] at k1;clear o1
  go_quiet (fail)
  go_wp2;go_ret2;exact ⟨ret_int2 (by rw [HS2.out]) (by rw [HN2.out]), ext_ex bL⟩
theorem trimmedSum_any (w : World) (A : OA) (n c : Nat) (l : List Int) (ha : RdI w A n l) (h0 : 0 < n) (hn : n <= 1000) (hb : ∀ x ∈ l, -100000 <= x /\ x <= 100000) :
  Calls Tryz.prog 160 #[.slice A n c] w (fun e w' => e = .returned (.tuple #[.int .i64 (trimS l), .int .i64 (trimN l : Nat)]) /\ ∃ y, w' = ext w y) := by
 have hl := ha.len;have h1 := sumTo_bd (c := 100000) Om hb n;have Hm := maxOf_mem (l := l) Om;have Hi := minOf_mem (l := l) Om;have m1 := hb _ Hm.1;have m2 := hb _ Hi.1;have HS : Hid (trimS l = if n < 5 then sumTo l n else sumTo l n - Lib.maxOf l - Lib.minOf l) := by unfold Hid trimS; rw [hl]
 have HN : Hid (trimN l = if n < 5 then n else n - 2) := by unfold Hid trimN; rw [hl]
 have cs := fun W h => sumInts_any W A n c l (ha.below h) hn hb
 have cm := fun W h => maxInts_any W A n c l (ha.below h) h0 Om
 have ci := fun W h => minInts_any W A n c l (ha.below h) h0 Om
 clear Hm Hi hb hl;generalize Lib.maxOf l = mx at *;generalize Lib.minOf l = mi at *;generalize sumTo l n = s at *;by_cases h5 : n < 5
 ·
  have h5I : (n : Int) < 5 := Om;go_enter Tryz.func160, Tryz.ntmps160;go_wp2_with (first | (go_at_call 138; (with_reducible refine ep (cs _ bL) ?_)))
  go_ret2;exact ⟨ret_int2 (by rw [HS.out, if_pos h5]) (by rw [HN.out, if_pos h5]), ext_ex bL⟩
 ·
  have h5I : ¬ (n : Int) < 5 := Om;have HS2 := Lib.hid (show trimS l = s - mx - mi by rw [HS.out, if_neg h5]);have HN2 := Lib.hid (show ((trimN l : Nat) : Int) = (n : Int) - 2 by rw [HN.out, if_neg h5]; omega);have e1 : IntKind.i64.wrap (s - mx) = s - mx := IntWalk.i64_in _ Om;have e2 : IntKind.i64.wrap (s - mx - mi) = s - mx - mi := IntWalk.i64_in _ Om;have e3 : IntKind.i64.wrap ((n : Int) - 2) = (n : Int) - 2 := IntWalk.i64_in _ Om;clear HS HN;go_enter Tryz.func160, Tryz.ntmps160;go_wp2_with (first | (go_at_call 138; (with_reducible refine ep (cs _ bL) ?_)) | (go_at_call 208; (with_reducible refine ep (cm _ bL) ?_)) | (go_at_call 209; (with_reducible refine ep (ci _ bL) ?_)))
  go_ret2;exact ⟨ret_int2 (by rw [HS2.out]) (by rw [HN2.out]), ext_ex bL⟩
theorem elUnit_any (w : World) (A B : OA) (n m c d : Nat) (els : List El) (q0 q1 q2 q3 : Int) (NA MA : OA) (nn nc mn mc : Nat) (it : It) (ha : RdEl w A n els) (hn : n <= 1099511627776) (hC : CodeG els q0 q1 q2) (hN : RdT w NA nn it.1) (hM : RdI w MA mn it.2.1) (hI : ItG els it) :
  Calls Tryz.prog 242 #[.agg #[.slice A n c, .slice B m d, .int .i64 q0, .int .i64 q1, .int .i64 q2, .int .i64 q3], .agg #[.slice NA nn nc, .slice MA mn mc, .bool it.2.2]] w fun e w' => e = .returned (.int .i64 (unitV els q2 it)) /\ ∃ y, w' = ext w y := by
 have Hn := Lib.hid hN.len;have Hm := Lib.hid hM.len;have hI1 := hI.1.2;have hIm := hI.2.1;rw [Hn.out] at hI1 hIm;rw [Hm.out] at hIm;obtain rfl := hIm.symm;obtain ⟨hq1, hq2⟩ := hC.2.2;have cw := fun W s mark (h : Below w.heap.size w W) hf => bsWorth_any W A B n m c d els q0 q1 q2 q3 s mark (ha.below h) hn hf hC.1 hq2.1 hq2.2
 have hkn := hI.2.2;rw [Hn.out] at hkn;have HV := Lib.hid (uMost_all hC hI);have HV : Hid (uMost els q2 it nn = unitV els q2 it) := by have := HV.out; rwa [Hn.out] at this
 obtain ⟨late, hlate⟩ : ∃ l, it.2.2 = l := ⟨_, rfl⟩;rw [hlate];clear hlate hC hI;go_enter Tryz.func242, Tryz.ntmps242;go_wp2
 go_loopw [5, 6, 7, 11] (fun t _ _ i wr => ∃ (k : Nat) (y : World), k <= nn /\ i = .int .i64 k /\ t = .int .i64 (uMost els q2 it k) /\ wr = ext ((w.alloc (oC A n c B m d q0 q1 q2 q3)).alloc (.cells #[.slice NA nn nc, .slice MA nn mc, .bool late] 61)) y) (fun _ _ _ i _ => nn - (intOf i).toNat)
 case atStart => exact ⟨0, _, Om, rfl, by simp [uMost, wTo], ext_self _⟩
 case round =>
  obtain ⟨k, y, hk, rfl, rfl, rfl⟩ := hrel;by_cases hlt : k < nn
  ·
   obtain ⟨bn, on, rfl, hbn, hcn⟩ := hN.open_ Om;obtain ⟨bm, om, rfl, hbm, hcm⟩ := hM.open_ Om;have hcnk : w.cell? ⟨bn, on + k, none⟩ = some (.string (nmAt it k)) := hcn k hlt;have hcmk : w.cell? ⟨bm, om + k, none⟩ = some (.int .i64 (mkAt it k)) := by have := hcm k Om; rwa [List.getD_eq_getElem?_getD] at this
   have hf : 0 <= findE els (nmAt it k) := hkn k hlt;have HS := Lib.hid (uMost_succ els q2 it k);have cs := fun W (h : Below w.heap.size w W) => cw W (nmAt it k) (mkAt it k) h hf
   clear hcn hcm cw hf hkn;generalize uMost els q2 it k = s at *;generalize wAt els q2 (nmAt it k) (mkAt it k) = v at *;generalize nmAt it k = nm at *;generalize mkAt it k = mk at *;have hS := fun W h => kS (R := ((w.alloc (oC A n c B m d q0 q1 q2 q3)).alloc (.cells #[.slice (some ⟨bn, on, none⟩) nn nc, .slice (some ⟨bm, om, none⟩) nn mc, .bool late] 61))) (W := W) (l := [(⟨w.heap.size, 0, none⟩, .slice A n c), (⟨w.heap.size, 1, none⟩, .slice B m d), (⟨w.heap.size, 2, none⟩, .int .i64 q0), (⟨w.heap.size, 3, none⟩, .int .i64 q1), (⟨w.heap.size, 4, none⟩, .int .i64 q2), (⟨w.heap.size, 5, none⟩, .int .i64 q3), (⟨w.heap.size + 1, 0, none⟩, .slice (some ⟨bn, on, none⟩) nn nc), (⟨w.heap.size + 1, 1, none⟩, .slice (some ⟨bm, om, none⟩) nn mc), (⟨w.heap.size + 1, 2, none⟩, .bool late), (⟨bm, om + k, none⟩, .int .i64 mk)]) h
   have fn1 := ((by repeat (first | exact Below.refl _ _ | assumption | refine bExt ?_ _ | refine bAlloc ?_ _ | refine bDrewN ?_ _ | refine bDrew ?_ | refine bSet ?_ (by first | exact Nat.le_refl _ | omega | (simp; done) | (simp; omega)) _) : Below w.heap.size w (ext ((w.alloc (oC A n c B m d q0 q1 q2 q3)).alloc (.cells #[.slice (some ⟨bn, on, none⟩) nn nc, .slice (some ⟨bm, om, none⟩) nn mc, .bool late] 61)) y)).cell (p := ⟨bn, on + k, none⟩) hbn).trans hcnk;have fm1 := ((by repeat (first | exact Below.refl _ _ | assumption | refine bExt ?_ _ | refine bAlloc ?_ _ | refine bDrewN ?_ _ | refine bDrew ?_ | refine bSet ?_ (by first | exact Nat.le_refl _ | omega | (simp; done) | (simp; omega)) _) : Below w.heap.size w (ext ((w.alloc (oC A n c B m d q0 q1 q2 q3)).alloc (.cells #[.slice (some ⟨bn, on, none⟩) nn nc, .slice (some ⟨bm, om, none⟩) nn mc, .bool late] 61)) y)).cell (p := ⟨bm, om + k, none⟩) hbm).trans hcmk;go_wp2
   go_region_held3 (fun w' => w'.cell? ⟨w.heap.size, 0, none⟩ = some (.slice A n c) /\ w'.cell? ⟨w.heap.size, 1, none⟩ = some (.slice B m d) /\ w'.cell? ⟨w.heap.size, 2, none⟩ = some (.int .i64 q0) /\ w'.cell? ⟨w.heap.size, 3, none⟩ = some (.int .i64 q1) /\ w'.cell? ⟨w.heap.size, 4, none⟩ = some (.int .i64 q2) /\ w'.cell? ⟨w.heap.size, 5, none⟩ = some (.int .i64 q3) /\ w'.cell? ⟨w.heap.size + 1, 0, none⟩ = some (.slice (some ⟨bn, on, none⟩) nn nc) /\ w'.cell? ⟨w.heap.size + 1, 1, none⟩ = some (.slice (some ⟨bm, om, none⟩) nn mc) /\ w'.cell? ⟨w.heap.size + 1, 2, none⟩ = some (.bool late) /\ w'.cell? ⟨bm, om + k, none⟩ = some (.int .i64 mk)) (exact hS _ bL) (first | (go_at_call 214; ((with_reducible refine ex (cs _ bL) ?_); intro y3)) | (go_at_call 143; (with_reducible refine ep (l1MostU_any s v _) ?_)))
   go_wp2;go_roundw
   case rel => exact ⟨k + 1, _, Om, by go_num, by rw [HS.out], (ext_ex bL).choose_spec⟩
   case measure => simp [intOf]; omega
  ·
   obtain rfl : k = nn := Om;go_wp2;go_ret;exact ⟨ret_int HV.out, ext_ex bL⟩
theorem unitOf_any (w : World) (A B : OA) (n m c d : Nat) (els : List El) (q0 q1 q2 q3 : Int) (NA MA : OA) (nn nc mn mc : Nat) (it : It) (ha : RdEl w A n els) (hn : n <= 1099511627776) (hC : CodeG els q0 q1 q2) (hN : RdT w NA nn it.1) (hM : RdI w MA mn it.2.1) (hI : ItG els it) :
  Calls Tryz.prog 162 #[.agg #[.slice A n c, .slice B m d, .int .i64 q0, .int .i64 q1, .int .i64 q2, .int .i64 q3], .agg #[.slice NA nn nc, .slice MA mn mc, .bool it.2.2]] w fun e w' => e = .returned (.int .i64 (unitV els q2 it)) /\ ∃ y, w' = ext w y := by
 have Hn := Lib.hid hN.len;have hI1 := hI.1;rw [Hn.out] at hI1;have cw := fun W h => worths_any W A B n m c d els q0 q1 q2 q3 NA MA nn nc mn mc it (ha.below h) hn hC (hN.below h) (hM.below h) hI
 have HV : Hid (Lib.maxOf (wTo els q2 it nn) = unitV els q2 it) := by unfold Hid unitV; rw [Hn.out]
 have hln := wTo_len els q2 it nn;obtain ⟨late, hlate⟩ : ∃ l, it.2.2 = l := ⟨_, rfl⟩;rw [hlate] at cw ⊢;clear hlate;generalize wTo els q2 it nn = l at *;go_enter Tryz.func162, Tryz.ntmps162;go_wp2_with (first | (go_at_call 207; ((with_reducible refine (cw _ bL).mono ?_); rintro e w' ⟨A1, n1, c1, x1, rfl, rfl, o1⟩; (obtain rfl : n1 = nn := o1.len.symm.trans hln))) | (go_at_call 208; (with_reducible refine ep (maxInts_any _ _ _ _ _ o1.rd Om Om) ?_)))
 go_ret;exact ⟨ret_int HV.out, ext_ex bL⟩
def slipB (a b c : Int) : Bool := inB a 0 9 && (inB b 0 60 && inB c 0 500)
theorem dcGood_any (a b c : Int) (w : World) : Calls Tryz.prog 116 #[.agg #[.int .i64 a, .int .i64 b, .int .i64 c]] w fun e w' => e = .returned (.bool (slipB a b c)) /\ ∃ y, w' = ext w y := by
 have c1 := fun W => l1In_any a 0 9 W
 have c2 := fun W => l1In_any b 0 60 W
 have c3 := fun W => l1In_any c 0 500 W
 have HE : Hid (slipB a b c = (inB a 0 9 && (inB b 0 60 && inB c 0 500))) := rfl;generalize inB a 0 9 = q1 at *;generalize inB b 0 60 = q2 at *;generalize inB c 0 500 = q3 at *;go_enter Tryz.func116, Tryz.ntmps116
 cases q1
 ·
  go_wp2_with (first | (go_at_call 60; (with_reducible refine ep (c1 _) ?_)) | (go_at_call 60; (with_reducible refine ep (c2 _) ?_)) | (go_at_call 60; (with_reducible refine ep (c3 _) ?_)))
  go_ret;exact ⟨ret_bool (by rw [HE.out]; rfl), ext_ex bL⟩
 ·
  cases q2
  ·
   go_wp2_with (first | (go_at_call 60; (with_reducible refine ep (c1 _) ?_)) | (go_at_call 60; (with_reducible refine ep (c2 _) ?_)) | (go_at_call 60; (with_reducible refine ep (c3 _) ?_)))
   go_ret;exact ⟨ret_bool (by rw [HE.out]; rfl), ext_ex bL⟩
  ·
   go_wp2_with (first | (go_at_call 60; (with_reducible refine ep (c1 _) ?_)) | (go_at_call 60; (with_reducible refine ep (c2 _) ?_)) | (go_at_call 60; (with_reducible refine ep (c3 _) ?_)))
   go_ret;exact ⟨ret_bool (by rw [HE.out]; rfl), ext_ex bL⟩
theorem areSlips_any (a b c : Int) (w : World) : Calls Tryz.prog 109 #[.agg #[.int .i64 a, .int .i64 b, .int .i64 c]] w fun e w' => e = .returned (.bool (slipB a b c)) /\ ∃ y, w' = ext w y := by
 have c1 := fun W => within_any a 0 9 W
 have c2 := fun W => within_any b 0 60 W
 have c3 := fun W => within_any c 0 500 W
 have HE : Hid (slipB a b c = (inB a 0 9 && (inB b 0 60 && inB c 0 500))) := rfl;generalize inB a 0 9 = q1 at *;generalize inB b 0 60 = q2 at *;generalize inB c 0 500 = q3 at *;go_enter Tryz.func109, Tryz.ntmps109
 cases q1
 ·
  go_wp2_with (first | (go_at_call 64; (with_reducible refine ep (c1 _) ?_)) | (go_at_call 64; (with_reducible refine ep (c2 _) ?_)) | (go_at_call 64; (with_reducible refine ep (c3 _) ?_)))
  go_ret;exact ⟨ret_bool (by rw [HE.out]; rfl), ext_ex bL⟩
 ·
  cases q2
  ·
   go_wp2_with (first | (go_at_call 64; (with_reducible refine ep (c1 _) ?_)) | (go_at_call 64; (with_reducible refine ep (c2 _) ?_)) | (go_at_call 64; (with_reducible refine ep (c3 _) ?_)))
   go_ret;exact ⟨ret_bool (by rw [HE.out]; rfl), ext_ex bL⟩
  ·
   go_wp2_with (first | (go_at_call 64; (with_reducible refine ep (c1 _) ?_)) | (go_at_call 64; (with_reducible refine ep (c2 _) ?_)) | (go_at_call 64; (with_reducible refine ep (c3 _) ?_)))
   go_ret;exact ⟨ret_bool (by rw [HE.out]; rfl), ext_ex bL⟩
end Go.Proofs.YtlfhhkgleapamaaGreatDoor
