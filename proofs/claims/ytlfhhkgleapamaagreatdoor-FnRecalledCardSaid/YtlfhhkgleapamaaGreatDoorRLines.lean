/- Contracts: an item's line, in the program and in the reference. Conditions: a valid performance; the tables. -/
import Derived.Test.YtlfhhkgleapamaaGreatDoorRDoors
set_option linter.unusedVariables false
set_option linter.unusedSimpArgs false
set_option maxRecDepth 100000
set_option maxHeartbeats 16000000
namespace Go.Proofs.YtlfhhkgleapamaaGreatDoor
open Go.RowKit
variable {w : World}
theorem RdI.three_ {b : Nat} {x y z : Int} (hb : b < w.heap.size) (h0 : w.cell? ⟨b, 0, none⟩ = some (.int .i64 x)) (h1 : w.cell? ⟨b, 1, none⟩ = some (.int .i64 y)) (h2 : w.cell? ⟨b, 2, none⟩ = some (.int .i64 z)) : RdI w (some ⟨b, 0, none⟩) 3 [x, y, z] :=
 ⟨by simp, fun _ => ⟨b, 0, rfl, hb, fun j u hu => by
  match j with
  | 0 => simp at hu; subst hu; exact h0
  | 1 => simp at hu; subst hu; exact h1
  | 2 => simp at hu; subst hu; exact h2
  | j + 3 => simp at hu⟩⟩
def lineA (n b p s : Int) (t : BA) : ByteArray := numS n ++ ⟨#[32]⟩ ++ poS b ++ ⟨#[32]⟩ ++ poS p ++ ⟨#[32]⟩ ++ poS s ++ ⟨#[32]⟩ ++ t
theorem ptsS_three (b p s : Int) : ptsS [b, p, s] = poS b ++ ⟨#[32]⟩ ++ poS p ++ ⟨#[32]⟩ ++ poS s := by
 simp [ptsS, joinTo, ptF]
theorem lineA_eq (n b p s : Int) (t : BA) : lineA n b p s t = numS n ++ ⟨#[32]⟩ ++ ptsS [b, p, s] ++ ⟨#[32]⟩ ++ t := by
 rw [ptsS_three, lineA]; simp only [ByteArray.append_assoc]
def lineS (els : List El) (q0 q1 q2 : Int) (its : List It) (gg : List (List Int)) (k : Nat) : ByteArray :=
 lineA ((k : Int) + 1) (baseV els q0 q1 q2 its k) (ptsV els q0 q1 q2 its k (gg[k]?.getD [])) (baseV els q0 q1 q2 its k + ptsV els q0 q1 q2 its k (gg[k]?.getD [])) (itemS (its[k]?.getD zIt))
theorem lineA_size {n b p s : Int} {t : BA} (h0 : 0 <= n) (h1 : n < 100) (hb : -1000000000 <= b /\ b <= 1000000000) (hp : -1000000000 <= p /\ p <= 1000000000) (hs : -1000000000 <= s /\ s <= 1000000000) (ht : t.size <= 23) : (lineA n b p s t).size <= 80 := by
 have a := numS_size 1 n h0 Om;have c := poS_size hb.1 hb.2;have d := poS_size hp.1 hp.2;have e := poS_size hs.1 hs.2;have z : ByteArray.size ⟨#[32]⟩ = 1 := rfl;unfold lineA;simp only [ByteArray.size_append];omega
def PP (w : World) (A : OA) (n : Nat) (els : List El) (I : OA) (n2 c2 : Nat) (its : List It) (GA : OA) (gn : Nat) (gg : List (List Int)) : Prop :=
 (RdEl w A n els /\ n <= 1099511627776) /\ (RdIt w I n2 its /\ n2 <= c2) /\ RdM w GA gn gg
theorem PP.below {w' : World} {A : OA} {n : Nat} {els : List El} {I : OA} {n2 c2 : Nat} {its : List It} {GA : OA} {gn : Nat} {gg : List (List Int)} (h : PP w A n els I n2 c2 its GA gn gg) (hb : Below w.heap.size w w') : PP w' A n els I n2 c2 its GA gn gg := ⟨⟨h.1.1.below hb, h.1.2⟩, ⟨h.2.1.1.below hb, h.2.1.2⟩, h.2.2.below hb⟩
theorem PP.gp {A : OA} {n : Nat} {els : List El} {I : OA} {n2 c2 : Nat} {its : List It} {GA : OA} {gn : Nat} {gg kk : List (List Int)} {q0 q1 q2 q3 s1 s2 s3 : Int} (h : PP w A n els I n2 c2 its GA gn gg) (hP : PerfG els q0 q1 q2 q3 its gg kk s1 s2 s3) : GP w A n els q0 q1 q2 I n2 c2 its :=
 ⟨⟨h.1.1, h.1.2, hP.code⟩, h.2.1.1, by have := h.2.1.1.len; have := hP.len; omega, h.2.1.2, hP.itg⟩
theorem ptItem_any (w : World) (A B : OA) (n m c d : Nat) (els : List El) (q0 q1 q2 q3 : Int) (I : OA) (n2 c2 : Nat) (its : List It) (GA KA : OA) (gn gc kn kc : Nat) (gg kk : List (List Int)) (s1 s2 s3 : Int) (hM : PP w A n els I n2 c2 its GA gn gg) (hP : PerfG els q0 q1 q2 q3 its gg kk s1 s2 s3) (k : Nat) (hk : k < n2) :
  Calls Tryz.prog 67 #[.agg #[.slice A n c, .slice B m d, .int .i64 q0, .int .i64 q1, .int .i64 q2, .int .i64 q3], .agg #[.slice I n2 c2, .slice GA gn gc, .slice KA kn kc, .int .i64 s1, .int .i64 s2, .int .i64 s3], .int .i64 k] w fun e w' => e = .returned (.string (lineS els q0 q1 q2 its gg k)) /\ ∃ y, w' = ext w y := by
 have Hl := Lib.hid hM.2.1.1.len;have hkI : k < its.length := by rw [Hl.out]; exact hk
 have hlen := hP.len;have hIk := hP.itg k hkI;have hkg : k < gg.length := by rw [hP.glen]; exact hkI
 have hgr := hP.grs k hkg;have hT := hP.txt k hkI;have hb1 := base_bd (its := its) (k := k) hP.code hIk;have hb2 := pts_bd (its := its) (k := k) hP.code hIk hgr;have hG := hM.gp hP;have Hgl := Lib.hid hM.2.2.len;have hkgn : k < gn := by rw [<- Hgl.out]; exact hkg
 rw [Hl.out] at hlen;have zk := numS_size 1 ((k : Int) + 1) Om Om;have zt := itemS_size hT hIk.1.2;have cb := fun W h => bsItemG W A B n m c d els q0 q1 q2 q3 I n2 c2 its k (hG.below h) hk
 have cs := fun W h => elScore_any W A B n m c d els q0 q1 q2 q3 I n2 c2 its k (hG.below h) hk GA KA gn gc kn kc gg (hM.2.2.below h) hkgn hgr
 obtain ⟨b, off, NA, nn, nc, MA, mn, mc, rfl, hb0, hc0, hc1, hc2, hN, hMk, _, _⟩ := hM.2.1.1.at_ k hk;have hnl := hN.len;have ct := fun W h => itText_any W NA MA nn nc mn mc (its[k]?.getD zIt) (hN.below h) (hMk.below h) (by have := hIk.1; omega) (by have := hIk.1; omega) hIk.2.1 hT
 have HV : Hid (lineS els q0 q1 q2 its gg k = lineA ((k : Int) + 1) (baseV els q0 q1 q2 its k) (ptsV els q0 q1 q2 its k (gg[k]?.getD [])) (baseV els q0 q1 q2 its k + ptsV els q0 q1 q2 its k (gg[k]?.getD [])) (itemS (its[k]?.getD zIt))) := rfl;clear hM hP hG hgr hT hIk hkI hkg hkgn hN hMk hnl;generalize its[k]?.getD zIt = it at *;generalize baseV els q0 q1 q2 its k = bv at *;generalize ptsV els q0 q1 q2 its k (gg[k]?.getD []) = pv at *;obtain ⟨sc, hsc⟩ : ∃ sc, bv + pv = sc := ⟨_, rfl⟩;rw [hsc] at HV cs;have z1 := poS_size (n := bv) Om Om;have z2 := poS_size (n := pv) Om Om;have z3 := poS_size (n := sc) Om Om;have f1 : Fit (numS ((k : Int) + 1) ++ (⟨#[32]⟩ : BA)) := by unfold Fit; simp only [ByteArray.size_append]; have : ByteArray.size (⟨#[32]⟩ : BA) = 1 := rfl; omega
 have f2 : Fit (numS ((k : Int) + 1) ++ (⟨#[32]⟩ : BA) ++ poS bv) := by unfold Fit; simp only [ByteArray.size_append]; have : ByteArray.size (⟨#[32]⟩ : BA) = 1 := rfl; omega
 have f3 : Fit (numS ((k : Int) + 1) ++ (⟨#[32]⟩ : BA) ++ poS bv ++ (⟨#[32]⟩ : BA)) := by unfold Fit; simp only [ByteArray.size_append]; have : ByteArray.size (⟨#[32]⟩ : BA) = 1 := rfl; omega
 have f4 : Fit (numS ((k : Int) + 1) ++ (⟨#[32]⟩ : BA) ++ poS bv ++ (⟨#[32]⟩ : BA) ++ poS pv) := by unfold Fit; simp only [ByteArray.size_append]; have : ByteArray.size (⟨#[32]⟩ : BA) = 1 := rfl; omega
 have f5 : Fit (numS ((k : Int) + 1) ++ (⟨#[32]⟩ : BA) ++ poS bv ++ (⟨#[32]⟩ : BA) ++ poS pv ++ (⟨#[32]⟩ : BA)) := by unfold Fit; simp only [ByteArray.size_append]; have : ByteArray.size (⟨#[32]⟩ : BA) = 1 := rfl; omega
 have f6 : Fit (numS ((k : Int) + 1) ++ (⟨#[32]⟩ : BA) ++ poS bv ++ (⟨#[32]⟩ : BA) ++ poS pv ++ (⟨#[32]⟩ : BA) ++ poS sc) := by unfold Fit; simp only [ByteArray.size_append]; have : ByteArray.size (⟨#[32]⟩ : BA) = 1 := rfl; omega
 have f7 : Fit (numS ((k : Int) + 1) ++ (⟨#[32]⟩ : BA) ++ poS bv ++ (⟨#[32]⟩ : BA) ++ poS pv ++ (⟨#[32]⟩ : BA) ++ poS sc ++ (⟨#[32]⟩ : BA)) := by unfold Fit; simp only [ByteArray.size_append]; have : ByteArray.size (⟨#[32]⟩ : BA) = 1 := rfl; omega
 have f8 : Fit (numS ((k : Int) + 1) ++ (⟨#[32]⟩ : BA) ++ poS bv ++ (⟨#[32]⟩ : BA) ++ poS pv ++ (⟨#[32]⟩ : BA) ++ poS sc ++ (⟨#[32]⟩ : BA) ++ itemS it) := by unfold Fit; simp only [ByteArray.size_append]; have : ByteArray.size (⟨#[32]⟩ : BA) = 1 := rfl; omega
 have e1 : IntKind.i64.wrap pv = pv := IntWalk.i64_in _ Om;have e2 : sc - bv = pv := Om;have e3 : IntKind.i64.wrap ((k : Int) + 1) = (k : Int) + 1 := IntWalk.i64_in _ Om;have c0 := fun W => l1Num_fuel 1 ((k : Int) + 1) W Om Om Om Om
 have c1 := fun W => poText_any bv W Om Om
 have c2' := fun W => poText_any pv W Om Om
 have c3 := fun W => poText_any sc W Om Om
 clear hsc z1 z2 z3 zk zt hb1 hb2;have hS := fun W h => kS (R := ((w.alloc (oC A n c B m d q0 q1 q2 q3)).alloc (.cells #[.slice (some ⟨b, off, none⟩) n2 c2, .slice GA gn gc, .slice KA kn kc, .int .i64 s1, .int .i64 s2, .int .i64 s3] 35))) (W := W) (l := [(⟨w.heap.size + 1, 0, none⟩, .slice (some ⟨b, off, none⟩) n2 c2), (⟨b, off + k * 3, none⟩, .slice NA nn nc), (⟨b, off + k * 3 + 1, none⟩, .slice MA mn mc), (⟨b, off + k * 3 + 2, none⟩, .bool it.2.2)]) h
 clear hc0 hc1 hc2;go_enter Tryz.func67, Tryz.ntmps67;go_wp2_with (first | (go_at_call 117; ((with_reducible refine (cb _ bL).mono ?_); rintro e w' ⟨rfl, y1, rfl⟩)) | (go_at_call 118; ((with_reducible refine (cs _ bL).mono ?_); rintro e w' ⟨rfl, y2, rfl⟩)))
 go_region_held3 (fun w' => w'.cell? ⟨w.heap.size + 1, 0, none⟩ = some (.slice (some ⟨b, off, none⟩) n2 c2) /\ w'.cell? ⟨b, off + k * 3, none⟩ = some (.slice NA nn nc) /\ w'.cell? ⟨b, off + k * 3 + 1, none⟩ = some (.slice MA mn mc) /\ w'.cell? ⟨b, off + k * 3 + 2, none⟩ = some (.bool it.2.2)) (exact hS _ bL) (first | (go_at_call 81; ((with_reducible refine ex (c0 _) ?_); intro y3)) | (go_at_call 119; ((with_reducible refine ex (c1 _) ?_); intro y4)) | (go_at_call 119; ((with_reducible refine (c2' _).mono ?_); rintro e w' ⟨rfl, y5, rfl⟩)) | (go_at_call 119; ((with_reducible refine ex (c3 _) ?_); intro y6)) | (go_at_call 120; ((with_reducible refine ex (ct _ bL) ?_); intro y7)))
 all_goals
  go_wp2;go_ret;exact ⟨ret_str (by rw [HV.out, lineA]), ext_ex bL⟩
theorem itemLine_any (w : World) (A B : OA) (n m c d : Nat) (els : List El) (q0 q1 q2 q3 : Int) (I : OA) (n2 c2 : Nat) (its : List It) (GA KA : OA) (gn gc kn kc : Nat) (gg kk : List (List Int)) (s1 s2 s3 : Int) (hM : PP w A n els I n2 c2 its GA gn gg) (hP : PerfG els q0 q1 q2 q3 its gg kk s1 s2 s3) (hTab : Tab w) (hSg : Sgn w) (k : Nat) (hk : k < n2) :
  Calls Tryz.prog 65 #[.agg #[.slice A n c, .slice B m d, .int .i64 q0, .int .i64 q1, .int .i64 q2, .int .i64 q3], .agg #[.slice I n2 c2, .slice GA gn gc, .slice KA kn kc, .int .i64 s1, .int .i64 s2, .int .i64 s3], .int .i64 k] w fun e w' => e = .returned (.string (lineS els q0 q1 q2 its gg k)) /\ ∃ y, w' = ext w y := by
 have Hl := Lib.hid hM.2.1.1.len;have hkI : k < its.length := by rw [Hl.out]; exact hk
 have hlen := hP.len;have hIk := hP.itg k hkI;have hkg : k < gg.length := by rw [hP.glen]; exact hkI
 have hgr := hP.grs k hkg;have hT := hP.txt k hkI;have hb1 := base_bd (its := its) (k := k) hP.code hIk;have hb2 := pts_bd (its := its) (k := k) hP.code hIk hgr;have hG := hM.gp hP;have Hgl := Lib.hid hM.2.2.len;have hkgn : k < gn := by rw [<- Hgl.out]; exact hkg
 rw [Hl.out] at hlen;have zk := numS_size 1 ((k : Int) + 1) Om Om;have zt := itemS_size hT hIk.1.2;have cb := fun W h => itemBaseG W A B n m c d els q0 q1 q2 q3 I n2 c2 its k (hG.below h) hk
 obtain ⟨b, off, NA, nn, nc, MA, mn, mc, rfl, hb0, hc0, hc1, hc2, hN, hMk, _, _⟩ := hM.2.1.1.at_ k hk;obtain ⟨bg, og, RA, rn, rc, rfl, hbg, hcg, hr, _, _⟩ := hM.2.2.at_ k hkgn;have cs := fun W h => pointsFor_any W A B n m c d els q0 q1 q2 q3 (some ⟨b, off, none⟩) n2 c2 its k (hG.below h) hk RA rn rc _ (hr.below h) hgr
 have hnl := hN.len;have ct := fun W h => itemText_any W NA MA nn nc mn mc (its[k]?.getD zIt) (hN.below h) (hMk.below h) (by have := hIk.1; omega) (by have := hIk.1; omega) hIk.2.1 hT (hSg.below h)
 have HV : Hid (lineS els q0 q1 q2 its gg k = lineA ((k : Int) + 1) (baseV els q0 q1 q2 its k) (ptsV els q0 q1 q2 its k (gg[k]?.getD [])) (baseV els q0 q1 q2 its k + ptsV els q0 q1 q2 its k (gg[k]?.getD [])) (itemS (its[k]?.getD zIt))) := rfl;clear hM hP hG hgr hT hIk hkI hkg hN hMk hnl hr hSg;generalize its[k]?.getD zIt = it at *;generalize baseV els q0 q1 q2 its k = bv at *;generalize ptsV els q0 q1 q2 its k (gg[k]?.getD []) = pv at *;have e2 : IntKind.i64.wrap (bv + pv) = bv + pv := IntWalk.i64_in _ Om;obtain ⟨sc, hsc⟩ : ∃ sc, bv + pv = sc := ⟨_, rfl⟩;rw [hsc] at HV e2;have hl3 : ∀ x ∈ [bv, pv, sc], -1000000000 <= x /\ x <= 1000000000 := by intro x hx; simp at hx; omega
 have z1 := ptsS_size hl3 3 (Nat.le_refl _);have z1 : (ptsS [bv, pv, sc]).size <= 42 := z1;have f1 : Fit (numS ((k : Int) + 1) ++ (⟨#[32]⟩ : BA)) := by unfold Fit; simp only [ByteArray.size_append]; have : ByteArray.size (⟨#[32]⟩ : BA) = 1 := rfl; omega
 have f2 : Fit (numS ((k : Int) + 1) ++ (⟨#[32]⟩ : BA) ++ ptsS [bv, pv, sc]) := by unfold Fit; simp only [ByteArray.size_append]; have : ByteArray.size (⟨#[32]⟩ : BA) = 1 := rfl; omega
 have f3 : Fit (numS ((k : Int) + 1) ++ (⟨#[32]⟩ : BA) ++ ptsS [bv, pv, sc] ++ (⟨#[32]⟩ : BA)) := by unfold Fit; simp only [ByteArray.size_append]; have : ByteArray.size (⟨#[32]⟩ : BA) = 1 := rfl; omega
 have f4 : Fit (numS ((k : Int) + 1) ++ (⟨#[32]⟩ : BA) ++ ptsS [bv, pv, sc] ++ (⟨#[32]⟩ : BA) ++ itemS it) := by unfold Fit; simp only [ByteArray.size_append]; have : ByteArray.size (⟨#[32]⟩ : BA) = 1 := rfl; omega
 have e3 : IntKind.i64.wrap ((k : Int) + 1) = (k : Int) + 1 := IntWalk.i64_in _ Om;have c0 := fun W => itoa_small ((k : Int) + 1) W Om Om
 have cw := fun W (h : Below w.heap.size w W) X (hr : RdI W X 3 [bv, pv, sc]) => pointsWords_any W X 3 3 [bv, pv, sc] hr Om Om hl3 (hTab.below h)
 clear z1 zk zt hb1 hb2 hTab hl3;have hS := fun W h => kS (R := ((w.alloc (oC A n c B m d q0 q1 q2 q3)).alloc (.cells #[.slice (some ⟨b, off, none⟩) n2 c2, .slice (some ⟨bg, og, none⟩) gn gc, .slice KA kn kc, .int .i64 s1, .int .i64 s2, .int .i64 s3] 35))) (W := W) (l := [(⟨w.heap.size, 0, none⟩, .slice A n c), (⟨w.heap.size, 1, none⟩, .slice B m d), (⟨w.heap.size, 2, none⟩, .int .i64 q0), (⟨w.heap.size, 3, none⟩, .int .i64 q1), (⟨w.heap.size, 4, none⟩, .int .i64 q2), (⟨w.heap.size, 5, none⟩, .int .i64 q3), (⟨w.heap.size + 1, 0, none⟩, .slice (some ⟨b, off, none⟩) n2 c2), (⟨w.heap.size + 1, 1, none⟩, .slice (some ⟨bg, og, none⟩) gn gc), (⟨bg, og + k, none⟩, .slice RA rn rc)]) h
 have hS2 := fun W h => kS (R := ((w.alloc (oC A n c B m d q0 q1 q2 q3)).alloc (.cells #[.slice (some ⟨b, off, none⟩) n2 c2, .slice (some ⟨bg, og, none⟩) gn gc, .slice KA kn kc, .int .i64 s1, .int .i64 s2, .int .i64 s3] 35))) (W := W) (l := [(⟨w.heap.size + 1, 0, none⟩, .slice (some ⟨b, off, none⟩) n2 c2), (⟨b, off + k * 3, none⟩, .slice NA nn nc), (⟨b, off + k * 3 + 1, none⟩, .slice MA mn mc), (⟨b, off + k * 3 + 2, none⟩, .bool it.2.2)]) h
 clear hc0 hc1 hc2 hcg;go_enter Tryz.func65, Tryz.ntmps65;go_wp2
 go_region_held3 (fun w' => w'.cell? ⟨w.heap.size, 0, none⟩ = some (.slice A n c) /\ w'.cell? ⟨w.heap.size, 1, none⟩ = some (.slice B m d) /\ w'.cell? ⟨w.heap.size, 2, none⟩ = some (.int .i64 q0) /\ w'.cell? ⟨w.heap.size, 3, none⟩ = some (.int .i64 q1) /\ w'.cell? ⟨w.heap.size, 4, none⟩ = some (.int .i64 q2) /\ w'.cell? ⟨w.heap.size, 5, none⟩ = some (.int .i64 q3) /\ w'.cell? ⟨w.heap.size + 1, 0, none⟩ = some (.slice (some ⟨b, off, none⟩) n2 c2) /\ w'.cell? ⟨w.heap.size + 1, 1, none⟩ = some (.slice (some ⟨bg, og, none⟩) gn gc) /\ w'.cell? ⟨bg, og + k, none⟩ = some (.slice RA rn rc)) (exact hS _ bL) (first | (go_at_call 110; ((with_reducible refine (cb _ bL).mono ?_); rintro e w' ⟨rfl, y1, rfl⟩)) | (go_at_call 111; ((with_reducible refine (cs _ bL).mono ?_); rintro e w' ⟨rfl, y2, rfl⟩)))
 all_goals
  go_wp2
  go_region_held3 (fun w' => w'.cell? ⟨w.heap.size + 1, 0, none⟩ = some (.slice (some ⟨b, off, none⟩) n2 c2) /\ w'.cell? ⟨b, off + k * 3, none⟩ = some (.slice NA nn nc) /\ w'.cell? ⟨b, off + k * 3 + 1, none⟩ = some (.slice MA mn mc) /\ w'.cell? ⟨b, off + k * 3 + 2, none⟩ = some (.bool it.2.2)) (exact hS2 _ bL) (first | (go_at_call 112; (with_reducible refine ep (c0 _) ?_)) | (go_at_call 113; ((with_reducible refine ex (cw _ bL _ (RdI.three_ Sg Sg Sg Sg)) ?_); intro y3)) | (go_at_call 114; ((with_reducible refine ex (ct _ bL) ?_); intro y4)))
  all_goals
   go_wp2;go_ret;exact ⟨ret_str (by rw [HV.out, lineA_eq]), ext_ex bL⟩
def RetSK (w : World) (s : BA) (ok : Bool) (e : Ending) (w' : World) : Prop := ∃ x, e = .returned (.tuple #[.string s, .bool ok]) /\ w' = ext w x
theorem RetSK.mk_ {W : World} {s s' : BA} {ok ok' : Bool} (hs : s' = s) (hk : ok' = ok) (hb : Below w.heap.size w W) : RetSK w s ok (.returned (.tuple #[.string s', .bool ok'])) W := by
 subst hs hk;obtain ⟨x, rfl⟩ := ext_ex hb;exact ⟨x, rfl, rfl⟩
def lineOk (els : List El) (lims : List Int) (q0 q1 q2 q3 : Int) (its : List It) (gg kk : List (List Int)) (s1 s2 s3 k : Int) : Bool := perfB els lims q0 q1 q2 q3 its gg kk s1 s2 s3 && inB k 0 ((its.length : Int) - 1)
def lineO (els : List El) (lims : List Int) (q0 q1 q2 q3 : Int) (its : List It) (gg kk : List (List Int)) (s1 s2 s3 k : Int) : ByteArray := if lineOk els lims q0 q1 q2 q3 its gg kk s1 s2 s3 k then lineS els q0 q1 q2 its gg k.toNat else ⟨#[]⟩
theorem specItemLine_any (w : World) (A B : OA) (n m c d : Nat) (els : List El) (lims : List Int) (q0 q1 q2 q3 : Int) (hc : CodeR w A n B m els lims) (I : OA) (n2 c2 : Nat) (its : List It) (hi : ItsR w I n2 c2 its) (GA KA : OA) (gn gc kn kc : Nat) (gg kk : List (List Int)) (hm : RdMk w GA gn KA kn gg kk) (s1 s2 s3 k : Int) :
  Calls Tryz.prog 31 #[.agg #[.slice A n c, .slice B m d, .int .i64 q0, .int .i64 q1, .int .i64 q2, .int .i64 q3], .agg #[.slice I n2 c2, .slice GA gn gc, .slice KA kn kc, .int .i64 s1, .int .i64 s2, .int .i64 s3], .int .i64 k] w (RetSK w (lineO els lims q0 q1 q2 q3 its gg kk s1 s2 s3 k) (lineOk els lims q0 q1 q2 q3 its gg kk s1 s2 s3 k)) := by
 have cg := fun W h => sgGood_any W A B n m c d els lims q0 q1 q2 q3 (hc.below h) I n2 c2 its (hi.below h) GA KA gn gc kn kc gg kk (hm.below h) s1 s2 s3
 have hl := hi.1.len;have hn2 := hi.2.1;have HO : Hid (lineO els lims q0 q1 q2 q3 its gg kk s1 s2 s3 k = if lineOk els lims q0 q1 q2 q3 its gg kk s1 s2 s3 k then lineS els q0 q1 q2 its gg k.toNat else ⟨#[]⟩) := rfl;have HK : Hid (lineOk els lims q0 q1 q2 q3 its gg kk s1 s2 s3 k = (perfB els lims q0 q1 q2 q3 its gg kk s1 s2 s3 && inB k 0 ((n2 : Int) - 1))) := by unfold Hid lineOk; rw [hl]
 have e1 : IntKind.i64.wrap ((n2 : Int) - 1) = (n2 : Int) - 1 := IntWalk.i64_in _ Om
 cases hp : perfB els lims q0 q1 q2 q3 its gg kk s1 s2 s3
 ·
  rw [hp] at cg HK;have cw := fun W => l1In_any k 0 ((n2 : Int) - 1) W
  clear hp hc hi hm;go_enter Tryz.func31, Tryz.ntmps31;go_wp2_with (first | (go_at_call 66; ((with_reducible refine (cg _ bL).mono ?_); rintro e w' ⟨rfl, y1, rfl⟩)) | (go_at_call 60; (with_reducible refine ep (cw _) ?_)))
  go_ret2;exact RetSK.mk_ (by rw [HO.out, HK.out]; rfl) (by rw [HK.out]; rfl) bL
 ·
  have hP := perf_of hp;have hM : PP w A n els I n2 c2 its GA gn gg := ⟨⟨hc.1, hc.2.2.1⟩, ⟨hi.1, hi.2.2.1⟩, hm.1⟩;rw [hp] at cg HK;have cw := fun W => l1In_any k 0 ((n2 : Int) - 1) W
  cases hk : inB k 0 ((n2 : Int) - 1)
  ·
   rw [hk] at cw HK;clear hp hc hi hm hP hM hk;go_enter Tryz.func31, Tryz.ntmps31;go_wp2_with (first | (go_at_call 66; ((with_reducible refine (cg _ bL).mono ?_); rintro e w' ⟨rfl, y1, rfl⟩)) | (go_at_call 60; (with_reducible refine ep (cw _) ?_)))
   go_ret2;exact RetSK.mk_ (by rw [HO.out, HK.out]; rfl) (by rw [HK.out]; rfl) bL
  ·
   have hkb := inB_iff.1 hk;obtain ⟨j, rfl⟩ : ∃ j : Nat, k = j := ⟨k.toNat, Om⟩;have cl := fun W h => ptItem_any W A B n m c d els q0 q1 q2 q3 I n2 c2 its GA KA gn gc kn kc gg kk s1 s2 s3 (hM.below h) hP j Om
   rw [hk] at cw HK;have HO2 : Hid (lineO els lims q0 q1 q2 q3 its gg kk s1 s2 s3 j = lineS els q0 q1 q2 its gg j) := by unfold Hid; rw [HO.out, HK.out, Int.toNat_natCast]; rfl
   clear hp hc hi hm hP hM hk HO;go_enter Tryz.func31, Tryz.ntmps31;go_wp2_with (first | (go_at_call 66; ((with_reducible refine (cg _ bL).mono ?_); rintro e w' ⟨rfl, y1, rfl⟩)) | (go_at_call 60; (with_reducible refine ep (cw _) ?_)) | (go_at_call 67; ((with_reducible refine ex (cl _ bL) ?_); intro y2)))
   go_ret2;exact RetSK.mk_ (by rw [HO2.out]) (by rw [HK.out]; rfl) bL
theorem implItemLine_any (w : World) (A B : OA) (n m c d : Nat) (els : List El) (lims : List Int) (q0 q1 q2 q3 : Int) (hc : CodeR w A n B m els lims) (I : OA) (n2 c2 : Nat) (its : List It) (hi : ItsR w I n2 c2 its) (GA KA : OA) (gn gc kn kc : Nat) (gg kk : List (List Int)) (hm : RdMk w GA gn KA kn gg kk) (s1 s2 s3 k : Int) (hTab : Tab w) (hSg : Sgn w) :
  Calls Tryz.prog 30 #[.agg #[.slice A n c, .slice B m d, .int .i64 q0, .int .i64 q1, .int .i64 q2, .int .i64 q3], .agg #[.slice I n2 c2, .slice GA gn gc, .slice KA kn kc, .int .i64 s1, .int .i64 s2, .int .i64 s3], .int .i64 k] w (RetSK w (lineO els lims q0 q1 q2 q3 its gg kk s1 s2 s3 k) (lineOk els lims q0 q1 q2 q3 its gg kk s1 s2 s3 k)) := by
 have cg := fun W h => isPerformance_any W A B n m c d els lims q0 q1 q2 q3 (hc.below h) I n2 c2 its (hi.below h) GA KA gn gc kn kc gg kk (hm.below h) s1 s2 s3
 have hl := hi.1.len;have hn2 := hi.2.1;have HO : Hid (lineO els lims q0 q1 q2 q3 its gg kk s1 s2 s3 k = if lineOk els lims q0 q1 q2 q3 its gg kk s1 s2 s3 k then lineS els q0 q1 q2 its gg k.toNat else ⟨#[]⟩) := rfl;have HK : Hid (lineOk els lims q0 q1 q2 q3 its gg kk s1 s2 s3 k = (perfB els lims q0 q1 q2 q3 its gg kk s1 s2 s3 && inB k 0 ((n2 : Int) - 1))) := by unfold Hid lineOk; rw [hl]
 have e1 : IntKind.i64.wrap ((n2 : Int) - 1) = (n2 : Int) - 1 := IntWalk.i64_in _ Om
 cases hp : perfB els lims q0 q1 q2 q3 its gg kk s1 s2 s3
 ·
  rw [hp] at cg HK;have cw := fun W => within_any k 0 ((n2 : Int) - 1) W
  clear hp hc hi hm;go_enter Tryz.func30, Tryz.ntmps30;go_wp2_with (first | (go_at_call 63; ((with_reducible refine (cg _ bL).mono ?_); rintro e w' ⟨rfl, y1, rfl⟩)) | (go_at_call 64; (with_reducible refine ep (cw _) ?_)))
  go_ret2;exact RetSK.mk_ (by rw [HO.out, HK.out]; rfl) (by rw [HK.out]; rfl) bL
 ·
  have hP := perf_of hp;have hM : PP w A n els I n2 c2 its GA gn gg := ⟨⟨hc.1, hc.2.2.1⟩, ⟨hi.1, hi.2.2.1⟩, hm.1⟩;rw [hp] at cg HK;have cw := fun W => within_any k 0 ((n2 : Int) - 1) W
  cases hk : inB k 0 ((n2 : Int) - 1)
  ·
   rw [hk] at cw HK;clear hp hc hi hm hP hM hk;go_enter Tryz.func30, Tryz.ntmps30;go_wp2_with (first | (go_at_call 63; ((with_reducible refine (cg _ bL).mono ?_); rintro e w' ⟨rfl, y1, rfl⟩)) | (go_at_call 64; (with_reducible refine ep (cw _) ?_)))
   go_ret2;exact RetSK.mk_ (by rw [HO.out, HK.out]; rfl) (by rw [HK.out]; rfl) bL
  ·
   have hkb := inB_iff.1 hk;obtain ⟨j, rfl⟩ : ∃ j : Nat, k = j := ⟨k.toNat, Om⟩;have cl := fun W h => itemLine_any W A B n m c d els q0 q1 q2 q3 I n2 c2 its GA KA gn gc kn kc gg kk s1 s2 s3 (hM.below h) hP (hTab.below h) (hSg.below h) j Om
   rw [hk] at cw HK;have HO2 : Hid (lineO els lims q0 q1 q2 q3 its gg kk s1 s2 s3 j = lineS els q0 q1 q2 its gg j) := by unfold Hid; rw [HO.out, HK.out, Int.toNat_natCast]; rfl
   clear hp hc hi hm hP hM hk HO;go_enter Tryz.func30, Tryz.ntmps30;go_wp2_with (first | (go_at_call 63; ((with_reducible refine (cg _ bL).mono ?_); rintro e w' ⟨rfl, y1, rfl⟩)) | (go_at_call 64; (with_reducible refine ep (cw _) ?_)) | (go_at_call 65; ((with_reducible refine ex (cl _ bL) ?_); intro y2)))
   go_ret2;exact RetSK.mk_ (by rw [HO2.out]) (by rw [HK.out]; rfl) bL
end Go.Proofs.YtlfhhkgleapamaaGreatDoor
