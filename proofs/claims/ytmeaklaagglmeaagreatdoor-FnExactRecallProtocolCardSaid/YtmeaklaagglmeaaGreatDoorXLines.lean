/- What a valid performance is known to hold; plain. Conditions: none. -/
import Derived.Test.YtmeaklaagglmeaaGreatDoorXTrims
import Derived.Test.YtmeaklaagglmeaaGreatDoorXDoors
set_option linter.unusedVariables false
set_option linter.unusedSimpArgs false
set_option maxRecDepth 100000
namespace Go.Proofs.YtmeaklaagglmeaaGreatDoor
theorem name_size {s : ByteArray} (h : nameB s = true) : s.size ≤ 5 := by
 simp only [nameB, Bool.and_eq_true] at h
 have := inB_iff.1 h.2
 omega
theorem code_of {els : List El} {lims : List Int} {q0 q1 q2 q3 : Int} (h : codeB els lims q0 q1 q2 q3 = true) : CodeG els q0 q1 q2 ∧ (0 ≤ q3 ∧ q3 ≤ 500) ∧ els.length ≤ 24 := by
 simp only [codeB, Bool.and_eq_true] at h
 obtain ⟨he, hn, _, _, h0, h1, h2, h3⟩ := h
 have h0 := inB_iff.1 h0
 have h1 := inB_iff.1 h1
 have h2 := inB_iff.1 h2
 have h3 := inB_iff.1 h3
 have hn := inB_iff.1 hn
 refine ⟨⟨fun k hk => ?_, h0, h1, by omega, by omega⟩, h3, by omega⟩
 have := List.all_eq_true.1 he k (by simpa using hk)
 simp only [okElAt, elB, Bool.and_eq_true] at this
 have hb := inB_iff.1 this.1.2.2.2
 exact hb
theorem mkAt_mem {it : It} {j : Nat} (h : j < it.2.1.length) : mkAt it j ∈ it.2.1 := getD_mem 0 it.2.1 j h
theorem item_of {it : It} (h : itemB it = true) : (1 ≤ it.1.length ∧ it.1.length ≤ 3) ∧ it.2.1.length = it.1.length ∧ ItT it := by
 simp only [itemB, Bool.and_eq_true, decide_eq_true_eq] at h
 obtain ⟨hn, hl, hm, ha⟩ := h
 have hl := inB_iff.1 hl
 refine ⟨by omega, hm, fun j hj => ⟨?_, ?_⟩⟩
 ·
  exact name_size (List.all_eq_true.1 hn _ (getD_mem ByteArray.empty it.1 j hj))
 ·
  exact allB_of ha _ (mkAt_mem (by omega))
theorem items_of {its : List It} (h : itemsB its = true) : its.length ≤ 14 ∧ ∀ j, j < its.length → (1 ≤ (its[j]?.getD zIt).1.length ∧ (its[j]?.getD zIt).1.length ≤ 3) ∧ (its[j]?.getD zIt).2.1.length = (its[j]?.getD zIt).1.length ∧ ItT (its[j]?.getD zIt) := by
 simp only [itemsB, Bool.and_eq_true, decide_eq_true_eq] at h
 exact ⟨h.2, fun j hj => item_of (List.all_eq_true.1 h.1 _ (getD_mem zIt its j hj))⟩
theorem know_of {els : List El} {its : List It} (h : knowB els its = true) {j : Nat} (hj : j < its.length) : ∀ i, i < (its[j]?.getD zIt).1.length → 0 ≤ findE els (nmAt (its[j]?.getD zIt) i) := fun i hi => by
 have := List.all_eq_true.1 h _ (getD_mem zIt its j hj)
 have := List.all_eq_true.1 this _ (getD_mem ByteArray.empty (its[j]?.getD zIt).1 i hi)
 exact of_decide_eq_true this
structure PerfG (els : List El) (q0 q1 q2 q3 : Int) (its : List It) (gg kk : List (List Int)) (s1 s2 s3 : Int) : Prop where
 code : CodeG els q0 q1 q2
 fall : 0 ≤ q3 ∧ q3 ≤ 500
 itg : ItsG els its
 len : its.length ≤ 14
 glen : gg.length = its.length
 txt : ∀ j, j < its.length → ItT (its[j]?.getD zIt)
 grs : ∀ j, j < gg.length → GrG (gg[j]?.getD [])
 mks : marksB gg kk = true
 slip : slipB s1 s2 s3 = true
theorem perf_of {els : List El} {lims : List Int} {q0 q1 q2 q3 : Int} {its : List It} {gg kk : List (List Int)} {s1 s2 s3 : Int} (h : perfB els lims q0 q1 q2 q3 its gg kk s1 s2 s3 = true) : PerfG els q0 q1 q2 q3 its gg kk s1 s2 s3 := by
 simp only [perfB, judgedB, progB, mksB, Bool.and_eq_true, decide_eq_true_eq] at h
 obtain ⟨⟨⟨hc, hi, hk⟩, hm, hg⟩, hs⟩ := h
 have c := code_of hc
 have i := items_of hi
 have m := marksB_of hm
 refine ⟨c.1, c.2.1, fun j hj => ⟨(i.2 j hj).1, (i.2 j hj).2.1, fun x hx => know_of hk hj x hx⟩, i.1, hg, fun j hj => (i.2 j hj).2.2, fun j hj => ?_, hm, hs⟩
 have r := m.2.2.2 j hj
 exact ⟨by rw [r.1]; exact m.2.2.1, r.2⟩
end Go.Proofs.YtmeaklaagglmeaaGreatDoor
namespace Go.Proofs.YtmeaklaagglmeaaGreatDoor
open Go.RowKit
theorem RdI.three_ {w : World} {b : Nat} {x y z : Int} (hb : b < w.heap.size) (h0 : w.cell? ⟨b, 0, none⟩ = some (.int .i64 x)) (h1 : w.cell? ⟨b, 1, none⟩ = some (.int .i64 y)) (h2 : w.cell? ⟨b, 2, none⟩ = some (.int .i64 z)) : RdI w (some ⟨b, 0, none⟩) 3 [x, y, z] :=
 ⟨by simp, fun _ => ⟨b, 0, rfl, hb, fun j u hu => by
  match j with
  | 0 => simp at hu; subst hu; exact h0
  | 1 => simp at hu; subst hu; exact h1
  | 2 => simp at hu; subst hu; exact h2
  | j + 3 => simp at hu⟩⟩
def lineA (n b p s : Int) (t : ByteArray) : ByteArray := numS n ++ ⟨#[32]⟩ ++ poS b ++ ⟨#[32]⟩ ++ poS p ++ ⟨#[32]⟩ ++ poS s ++ ⟨#[32]⟩ ++ t
theorem ptsS_three (b p s : Int) : ptsS [b, p, s] = poS b ++ ⟨#[32]⟩ ++ poS p ++ ⟨#[32]⟩ ++ poS s := by
 simp [ptsS, joinTo, ptF]
theorem lineA_eq (n b p s : Int) (t : ByteArray) : lineA n b p s t = numS n ++ ⟨#[32]⟩ ++ ptsS [b, p, s] ++ ⟨#[32]⟩ ++ t := by
 rw [ptsS_three, lineA]; simp only [ByteArray.append_assoc]
def lineS (els : List El) (q0 q1 q2 : Int) (its : List It) (gg : List (List Int)) (k : Nat) : ByteArray :=
 lineA ((k : Int) + 1) (baseV els q0 q1 q2 its k) (ptsV els q0 q1 q2 its k (gg[k]?.getD [])) (baseV els q0 q1 q2 its k + ptsV els q0 q1 q2 its k (gg[k]?.getD [])) (itemS (its[k]?.getD zIt))
theorem lineA_size {n b p s : Int} {t : ByteArray} (h0 : 0 ≤ n) (h1 : n < 100) (hb : -1000000000 ≤ b ∧ b ≤ 1000000000) (hp : -1000000000 ≤ p ∧ p ≤ 1000000000) (hs : -1000000000 ≤ s ∧ s ≤ 1000000000) (ht : t.size ≤ 23) : (lineA n b p s t).size ≤ 80 := by
 have a := numS_size 1 n h0 (by omega)
 have c := poS_size hb.1 hb.2
 have d := poS_size hp.1 hp.2
 have e := poS_size hs.1 hs.2
 have z : ByteArray.size ⟨#[32]⟩ = 1 := rfl
 unfold lineA
 simp only [ByteArray.size_append]
 omega
def PP (w : World) (A : Option Addr) (n : Nat) (els : List El) (I : Option Addr) (n2 c2 : Nat) (its : List It) (GA : Option Addr) (gn : Nat) (gg : List (List Int)) : Prop :=
 (RdEl w A n els ∧ n ≤ 1099511627776) ∧ (RdIt w I n2 its ∧ n2 ≤ c2) ∧ RdM w GA gn gg
theorem PP.below {w w' : World} {A : Option Addr} {n : Nat} {els : List El} {I : Option Addr} {n2 c2 : Nat} {its : List It} {GA : Option Addr} {gn : Nat} {gg : List (List Int)} (h : PP w A n els I n2 c2 its GA gn gg) (hb : Below w.heap.size w w') : PP w' A n els I n2 c2 its GA gn gg := ⟨⟨h.1.1.below hb, h.1.2⟩, ⟨h.2.1.1.below hb, h.2.1.2⟩, h.2.2.below hb⟩
theorem PP.gp {w : World} {A : Option Addr} {n : Nat} {els : List El} {I : Option Addr} {n2 c2 : Nat} {its : List It} {GA : Option Addr} {gn : Nat} {gg kk : List (List Int)} {q0 q1 q2 q3 s1 s2 s3 : Int} (h : PP w A n els I n2 c2 its GA gn gg) (hP : PerfG els q0 q1 q2 q3 its gg kk s1 s2 s3) : GP w A n els q0 q1 q2 I n2 c2 its :=
 ⟨⟨h.1.1, h.1.2, hP.code⟩, h.2.1.1, by have := h.2.1.1.len; have := hP.len; omega, h.2.1.2, hP.itg⟩
set_option maxHeartbeats 4000000 in
theorem ptItem_any (w : World) (A B : Option Addr) (n m c d : Nat) (els : List El) (q0 q1 q2 q3 : Int) (I : Option Addr) (n2 c2 : Nat) (its : List It) (GA KA : Option Addr) (gn gc kn kc : Nat) (gg kk : List (List Int)) (s1 s2 s3 : Int) (hM : PP w A n els I n2 c2 its GA gn gg) (hP : PerfG els q0 q1 q2 q3 its gg kk s1 s2 s3) (k : Nat) (hk : k < n2) :
  Calls Tryz.prog 94 #[.agg #[.slice A n c, .slice B m d, .int .i64 q0, .int .i64 q1, .int .i64 q2, .int .i64 q3], .agg #[.slice I n2 c2, .slice GA gn gc, .slice KA kn kc, .int .i64 s1, .int .i64 s2, .int .i64 s3], .int .i64 k] w fun e w' => e = .returned (.string (lineS els q0 q1 q2 its gg k)) ∧ ∃ y, w' = ext w y := by
 have Hl := Lib.hid hM.2.1.1.len
 have hkI : k < its.length := by rw [Hl.out]; exact hk
 have hlen := hP.len
 have hIk := hP.itg k hkI
 have hkg : k < gg.length := by rw [hP.glen]; exact hkI
 have hgr := hP.grs k hkg
 have hT := hP.txt k hkI
 have hb1 := base_bd (its := its) (k := k) hP.code hIk
 have hb2 := pts_bd (its := its) (k := k) hP.code hIk hgr
 have hG := hM.gp hP
 have Hgl := Lib.hid hM.2.2.len
 have hkgn : k < gn := by rw [← Hgl.out]; exact hkg
 rw [Hl.out] at hlen
 have zk := numS_size 1 ((k : Int) + 1) (by omega) (by omega)
 have zt := itemS_size hT hIk.1.2
 have cb := fun W (h : Below w.heap.size w W) => bsItemG W A B n m c d els q0 q1 q2 q3 I n2 c2 its k (hG.below h) hk
 have cs := fun W (h : Below w.heap.size w W) => elScore_any W A B n m c d els q0 q1 q2 q3 I n2 c2 its k (hG.below h) hk GA KA gn gc kn kc gg (hM.2.2.below h) hkgn hgr
 obtain ⟨b, off, NA, nn, nc, MA, mn, mc, rfl, hb0, hc0, hc1, hc2, hN, hMk, _, _⟩ := hM.2.1.1.at_ k hk
 have hnl := hN.len
 have ct := fun W (h : Below w.heap.size w W) => itText_any W NA MA nn nc mn mc (its[k]?.getD zIt) (hN.below h) (hMk.below h) (by have := hIk.1; omega) (by have := hIk.1; omega) hIk.2.1 hT
 have HV : Hid (lineS els q0 q1 q2 its gg k = lineA ((k : Int) + 1) (baseV els q0 q1 q2 its k) (ptsV els q0 q1 q2 its k (gg[k]?.getD [])) (baseV els q0 q1 q2 its k + ptsV els q0 q1 q2 its k (gg[k]?.getD [])) (itemS (its[k]?.getD zIt))) := rfl
 clear hM hP hG hgr hT hIk hkI hkg hkgn hN hMk hnl
 generalize its[k]?.getD zIt = it at *
 generalize baseV els q0 q1 q2 its k = bv at *
 generalize ptsV els q0 q1 q2 its k (gg[k]?.getD []) = pv at *
 obtain ⟨sc, hsc⟩ : ∃ sc, bv + pv = sc := ⟨_, rfl⟩
 rw [hsc] at HV cs
 have z1 := poS_size (n := bv) (by omega) (by omega)
 have z2 := poS_size (n := pv) (by omega) (by omega)
 have z3 := poS_size (n := sc) (by omega) (by omega)
 have f1 : Fit (numS ((k : Int) + 1) ++ (⟨#[32]⟩ : ByteArray)) := by unfold Fit; simp only [ByteArray.size_append]; have : ByteArray.size (⟨#[32]⟩ : ByteArray) = 1 := rfl; omega
 have f2 : Fit (numS ((k : Int) + 1) ++ (⟨#[32]⟩ : ByteArray) ++ poS bv) := by unfold Fit; simp only [ByteArray.size_append]; have : ByteArray.size (⟨#[32]⟩ : ByteArray) = 1 := rfl; omega
 have f3 : Fit (numS ((k : Int) + 1) ++ (⟨#[32]⟩ : ByteArray) ++ poS bv ++ (⟨#[32]⟩ : ByteArray)) := by unfold Fit; simp only [ByteArray.size_append]; have : ByteArray.size (⟨#[32]⟩ : ByteArray) = 1 := rfl; omega
 have f4 : Fit (numS ((k : Int) + 1) ++ (⟨#[32]⟩ : ByteArray) ++ poS bv ++ (⟨#[32]⟩ : ByteArray) ++ poS pv) := by unfold Fit; simp only [ByteArray.size_append]; have : ByteArray.size (⟨#[32]⟩ : ByteArray) = 1 := rfl; omega
 have f5 : Fit (numS ((k : Int) + 1) ++ (⟨#[32]⟩ : ByteArray) ++ poS bv ++ (⟨#[32]⟩ : ByteArray) ++ poS pv ++ (⟨#[32]⟩ : ByteArray)) := by unfold Fit; simp only [ByteArray.size_append]; have : ByteArray.size (⟨#[32]⟩ : ByteArray) = 1 := rfl; omega
 have f6 : Fit (numS ((k : Int) + 1) ++ (⟨#[32]⟩ : ByteArray) ++ poS bv ++ (⟨#[32]⟩ : ByteArray) ++ poS pv ++ (⟨#[32]⟩ : ByteArray) ++ poS sc) := by unfold Fit; simp only [ByteArray.size_append]; have : ByteArray.size (⟨#[32]⟩ : ByteArray) = 1 := rfl; omega
 have f7 : Fit (numS ((k : Int) + 1) ++ (⟨#[32]⟩ : ByteArray) ++ poS bv ++ (⟨#[32]⟩ : ByteArray) ++ poS pv ++ (⟨#[32]⟩ : ByteArray) ++ poS sc ++ (⟨#[32]⟩ : ByteArray)) := by unfold Fit; simp only [ByteArray.size_append]; have : ByteArray.size (⟨#[32]⟩ : ByteArray) = 1 := rfl; omega
 have f8 : Fit (numS ((k : Int) + 1) ++ (⟨#[32]⟩ : ByteArray) ++ poS bv ++ (⟨#[32]⟩ : ByteArray) ++ poS pv ++ (⟨#[32]⟩ : ByteArray) ++ poS sc ++ (⟨#[32]⟩ : ByteArray) ++ itemS it) := by unfold Fit; simp only [ByteArray.size_append]; have : ByteArray.size (⟨#[32]⟩ : ByteArray) = 1 := rfl; omega
 have e1 : IntKind.i64.wrap pv = pv := IntWalk.i64_in _ (by omega)
 have e2 : sc - bv = pv := by omega
 have e3 : IntKind.i64.wrap ((k : Int) + 1) = (k : Int) + 1 := IntWalk.i64_in _ (by omega)
 have c0 := fun W => l1Num_fuel 1 ((k : Int) + 1) W (by omega) (by omega) (by omega) (by omega)
 have c1 := fun W => poText_any bv W (by omega) (by omega)
 have c2' := fun W => poText_any pv W (by omega) (by omega)
 have c3 := fun W => poText_any sc W (by omega) (by omega)
 clear hsc z1 z2 z3 zk zt hb1 hb2
 have hR : ((w.alloc (.cells #[.slice A n c, .slice B m d, .int .i64 q0, .int .i64 q1, .int .i64 q2, .int .i64 q3] 39)).alloc (.cells #[.slice (some ⟨b, off, none⟩) n2 c2, .slice GA gn gc, .slice KA kn kc, .int .i64 s1, .int .i64 s2, .int .i64 s3] 34)).cell? ⟨w.heap.size + 1, 0, none⟩ = some (.slice (some ⟨b, off, none⟩) n2 c2) ∧ ((w.alloc (.cells #[.slice A n c, .slice B m d, .int .i64 q0, .int .i64 q1, .int .i64 q2, .int .i64 q3] 39)).alloc (.cells #[.slice (some ⟨b, off, none⟩) n2 c2, .slice GA gn gc, .slice KA kn kc, .int .i64 s1, .int .i64 s2, .int .i64 s3] 34)).cell? ⟨b, off + k * 3, none⟩ = some (.slice NA nn nc) ∧ ((w.alloc (.cells #[.slice A n c, .slice B m d, .int .i64 q0, .int .i64 q1, .int .i64 q2, .int .i64 q3] 39)).alloc (.cells #[.slice (some ⟨b, off, none⟩) n2 c2, .slice GA gn gc, .slice KA kn kc, .int .i64 s1, .int .i64 s2, .int .i64 s3] 34)).cell? ⟨b, off + k * 3 + 1, none⟩ = some (.slice MA mn mc) ∧ ((w.alloc (.cells #[.slice A n c, .slice B m d, .int .i64 q0, .int .i64 q1, .int .i64 q2, .int .i64 q3] 39)).alloc (.cells #[.slice (some ⟨b, off, none⟩) n2 c2, .slice GA gn gc, .slice KA kn kc, .int .i64 s1, .int .i64 s2, .int .i64 s3] 34)).cell? ⟨b, off + k * 3 + 2, none⟩ = some (.bool it.2.2) := by refine ⟨?_, ?_, ?_, ?_⟩ <;> first | assumption | simp [*, go_sem]
 have hS := fun (W : World) (h : Below ((w.alloc (.cells #[.slice A n c, .slice B m d, .int .i64 q0, .int .i64 q1, .int .i64 q2, .int .i64 q3] 39)).alloc (.cells #[.slice (some ⟨b, off, none⟩) n2 c2, .slice GA gn gc, .slice KA kn kc, .int .i64 s1, .int .i64 s2, .int .i64 s3] 34)).heap.size ((w.alloc (.cells #[.slice A n c, .slice B m d, .int .i64 q0, .int .i64 q1, .int .i64 q2, .int .i64 q3] 39)).alloc (.cells #[.slice (some ⟨b, off, none⟩) n2 c2, .slice GA gn gc, .slice KA kn kc, .int .i64 s1, .int .i64 s2, .int .i64 s3] 34)) W) => (⟨(h.cell (p := ⟨w.heap.size + 1, 0, none⟩) (by first | assumption | (simp [go_sem]; done) | (simp [go_sem]; omega))).trans hR.1, (h.cell (p := ⟨b, off + k * 3, none⟩) (by first | assumption | (simp [go_sem]; done) | (simp [go_sem]; omega))).trans hR.2.1, (h.cell (p := ⟨b, off + k * 3 + 1, none⟩) (by first | assumption | (simp [go_sem]; done) | (simp [go_sem]; omega))).trans hR.2.2.1, (h.cell (p := ⟨b, off + k * 3 + 2, none⟩) (by first | assumption | (simp [go_sem]; done) | (simp [go_sem]; omega))).trans hR.2.2.2⟩ : W.cell? ⟨w.heap.size + 1, 0, none⟩ = some (.slice (some ⟨b, off, none⟩) n2 c2) ∧ W.cell? ⟨b, off + k * 3, none⟩ = some (.slice NA nn nc) ∧ W.cell? ⟨b, off + k * 3 + 1, none⟩ = some (.slice MA mn mc) ∧ W.cell? ⟨b, off + k * 3 + 2, none⟩ = some (.bool it.2.2))
 clear hR
 clear hc0 hc1 hc2
 go_enter Tryz.func94, Tryz.ntmps94
 go_wp2_with (first | (go_at_call 155; ((with_reducible refine (cb _ bl).mono ?_); rintro e w' ⟨rfl, y1, rfl⟩)) | (go_at_call 156; ((with_reducible refine (cs _ bl).mono ?_); rintro e w' ⟨rfl, y2, rfl⟩)))
 go_region_held3 (fun w' => w'.cell? ⟨w.heap.size + 1, 0, none⟩ = some (.slice (some ⟨b, off, none⟩) n2 c2) ∧ w'.cell? ⟨b, off + k * 3, none⟩ = some (.slice NA nn nc) ∧ w'.cell? ⟨b, off + k * 3 + 1, none⟩ = some (.slice MA mn mc) ∧ w'.cell? ⟨b, off + k * 3 + 2, none⟩ = some (.bool it.2.2)) (exact hS _ bl) (first | (go_at_call 136; ((with_reducible refine (c0 _).mono ?_); rintro e w' ⟨rfl, y3, rfl⟩)) | (go_at_call 157; ((with_reducible refine (c1 _).mono ?_); rintro e w' ⟨rfl, y4, rfl⟩)) | (go_at_call 157; ((with_reducible refine (c2' _).mono ?_); rintro e w' ⟨rfl, y5, rfl⟩)) | (go_at_call 157; ((with_reducible refine (c3 _).mono ?_); rintro e w' ⟨rfl, y6, rfl⟩)) | (go_at_call 158; ((with_reducible refine (ct _ bl).mono ?_); rintro e w' ⟨rfl, y7, rfl⟩)))
 all_goals
  go_wp2
  go_ret
  exact ⟨ret_str (by rw [HV.out, lineA]), ext_ex bl⟩
set_option maxHeartbeats 4000000 in
theorem itemLine_any (w : World) (A B : Option Addr) (n m c d : Nat) (els : List El) (q0 q1 q2 q3 : Int) (I : Option Addr) (n2 c2 : Nat) (its : List It) (GA KA : Option Addr) (gn gc kn kc : Nat) (gg kk : List (List Int)) (s1 s2 s3 : Int) (hM : PP w A n els I n2 c2 its GA gn gg) (hP : PerfG els q0 q1 q2 q3 its gg kk s1 s2 s3) (hTab : Tab w) (hSg : Sgn w) (k : Nat) (hk : k < n2) :
  Calls Tryz.prog 92 #[.agg #[.slice A n c, .slice B m d, .int .i64 q0, .int .i64 q1, .int .i64 q2, .int .i64 q3], .agg #[.slice I n2 c2, .slice GA gn gc, .slice KA kn kc, .int .i64 s1, .int .i64 s2, .int .i64 s3], .int .i64 k] w fun e w' => e = .returned (.string (lineS els q0 q1 q2 its gg k)) ∧ ∃ y, w' = ext w y := by
 have Hl := Lib.hid hM.2.1.1.len
 have hkI : k < its.length := by rw [Hl.out]; exact hk
 have hlen := hP.len
 have hIk := hP.itg k hkI
 have hkg : k < gg.length := by rw [hP.glen]; exact hkI
 have hgr := hP.grs k hkg
 have hT := hP.txt k hkI
 have hb1 := base_bd (its := its) (k := k) hP.code hIk
 have hb2 := pts_bd (its := its) (k := k) hP.code hIk hgr
 have hG := hM.gp hP
 have Hgl := Lib.hid hM.2.2.len
 have hkgn : k < gn := by rw [← Hgl.out]; exact hkg
 rw [Hl.out] at hlen
 have zk := numS_size 1 ((k : Int) + 1) (by omega) (by omega)
 have zt := itemS_size hT hIk.1.2
 have cb := fun W (h : Below w.heap.size w W) => itemBaseG W A B n m c d els q0 q1 q2 q3 I n2 c2 its k (hG.below h) hk
 obtain ⟨b, off, NA, nn, nc, MA, mn, mc, rfl, hb0, hc0, hc1, hc2, hN, hMk, _, _⟩ := hM.2.1.1.at_ k hk
 obtain ⟨bg, og, RA, rn, rc, rfl, hbg, hcg, hr, _, _⟩ := hM.2.2.at_ k hkgn
 have cs := fun W (h : Below w.heap.size w W) => pointsFor_any W A B n m c d els q0 q1 q2 q3 (some ⟨b, off, none⟩) n2 c2 its k (hG.below h) hk RA rn rc _ (hr.below h) hgr
 have hnl := hN.len
 have ct := fun W (h : Below w.heap.size w W) => itemText_any W NA MA nn nc mn mc (its[k]?.getD zIt) (hN.below h) (hMk.below h) (by have := hIk.1; omega) (by have := hIk.1; omega) hIk.2.1 hT (hSg.below h)
 have HV : Hid (lineS els q0 q1 q2 its gg k = lineA ((k : Int) + 1) (baseV els q0 q1 q2 its k) (ptsV els q0 q1 q2 its k (gg[k]?.getD [])) (baseV els q0 q1 q2 its k + ptsV els q0 q1 q2 its k (gg[k]?.getD [])) (itemS (its[k]?.getD zIt))) := rfl
 clear hM hP hG hgr hT hIk hkI hkg hN hMk hnl hr hSg
 generalize its[k]?.getD zIt = it at *
 generalize baseV els q0 q1 q2 its k = bv at *
 generalize ptsV els q0 q1 q2 its k (gg[k]?.getD []) = pv at *
 have e2 : IntKind.i64.wrap (bv + pv) = bv + pv := IntWalk.i64_in _ (by omega)
 obtain ⟨sc, hsc⟩ : ∃ sc, bv + pv = sc := ⟨_, rfl⟩
 rw [hsc] at HV e2
 have hl3 : ∀ x ∈ [bv, pv, sc], -1000000000 ≤ x ∧ x ≤ 1000000000 := by intro x hx; simp at hx; omega
 have z1 := ptsS_size hl3 3 (Nat.le_refl _)
 have z1 : (ptsS [bv, pv, sc]).size ≤ 42 := z1
 have f1 : Fit (numS ((k : Int) + 1) ++ (⟨#[32]⟩ : ByteArray)) := by unfold Fit; simp only [ByteArray.size_append]; have : ByteArray.size (⟨#[32]⟩ : ByteArray) = 1 := rfl; omega
 have f2 : Fit (numS ((k : Int) + 1) ++ (⟨#[32]⟩ : ByteArray) ++ ptsS [bv, pv, sc]) := by unfold Fit; simp only [ByteArray.size_append]; have : ByteArray.size (⟨#[32]⟩ : ByteArray) = 1 := rfl; omega
 have f3 : Fit (numS ((k : Int) + 1) ++ (⟨#[32]⟩ : ByteArray) ++ ptsS [bv, pv, sc] ++ (⟨#[32]⟩ : ByteArray)) := by unfold Fit; simp only [ByteArray.size_append]; have : ByteArray.size (⟨#[32]⟩ : ByteArray) = 1 := rfl; omega
 have f4 : Fit (numS ((k : Int) + 1) ++ (⟨#[32]⟩ : ByteArray) ++ ptsS [bv, pv, sc] ++ (⟨#[32]⟩ : ByteArray) ++ itemS it) := by unfold Fit; simp only [ByteArray.size_append]; have : ByteArray.size (⟨#[32]⟩ : ByteArray) = 1 := rfl; omega
 have e3 : IntKind.i64.wrap ((k : Int) + 1) = (k : Int) + 1 := IntWalk.i64_in _ (by omega)
 have c0 := fun W => itoa_small ((k : Int) + 1) W (by omega) (by omega)
 have cw := fun W (h : Below w.heap.size w W) X (hr : RdI W X 3 [bv, pv, sc]) => pointsWords_any W X 3 3 [bv, pv, sc] hr (by omega) (by omega) hl3 (hTab.below h)
 clear z1 zk zt hb1 hb2 hTab hl3
 have hR : ((w.alloc (.cells #[.slice A n c, .slice B m d, .int .i64 q0, .int .i64 q1, .int .i64 q2, .int .i64 q3] 39)).alloc (.cells #[.slice (some ⟨b, off, none⟩) n2 c2, .slice (some ⟨bg, og, none⟩) gn gc, .slice KA kn kc, .int .i64 s1, .int .i64 s2, .int .i64 s3] 34)).cell? ⟨w.heap.size, 0, none⟩ = some (.slice A n c) ∧ ((w.alloc (.cells #[.slice A n c, .slice B m d, .int .i64 q0, .int .i64 q1, .int .i64 q2, .int .i64 q3] 39)).alloc (.cells #[.slice (some ⟨b, off, none⟩) n2 c2, .slice (some ⟨bg, og, none⟩) gn gc, .slice KA kn kc, .int .i64 s1, .int .i64 s2, .int .i64 s3] 34)).cell? ⟨w.heap.size, 1, none⟩ = some (.slice B m d) ∧ ((w.alloc (.cells #[.slice A n c, .slice B m d, .int .i64 q0, .int .i64 q1, .int .i64 q2, .int .i64 q3] 39)).alloc (.cells #[.slice (some ⟨b, off, none⟩) n2 c2, .slice (some ⟨bg, og, none⟩) gn gc, .slice KA kn kc, .int .i64 s1, .int .i64 s2, .int .i64 s3] 34)).cell? ⟨w.heap.size, 2, none⟩ = some (.int .i64 q0) ∧ ((w.alloc (.cells #[.slice A n c, .slice B m d, .int .i64 q0, .int .i64 q1, .int .i64 q2, .int .i64 q3] 39)).alloc (.cells #[.slice (some ⟨b, off, none⟩) n2 c2, .slice (some ⟨bg, og, none⟩) gn gc, .slice KA kn kc, .int .i64 s1, .int .i64 s2, .int .i64 s3] 34)).cell? ⟨w.heap.size, 3, none⟩ = some (.int .i64 q1) ∧ ((w.alloc (.cells #[.slice A n c, .slice B m d, .int .i64 q0, .int .i64 q1, .int .i64 q2, .int .i64 q3] 39)).alloc (.cells #[.slice (some ⟨b, off, none⟩) n2 c2, .slice (some ⟨bg, og, none⟩) gn gc, .slice KA kn kc, .int .i64 s1, .int .i64 s2, .int .i64 s3] 34)).cell? ⟨w.heap.size, 4, none⟩ = some (.int .i64 q2) ∧ ((w.alloc (.cells #[.slice A n c, .slice B m d, .int .i64 q0, .int .i64 q1, .int .i64 q2, .int .i64 q3] 39)).alloc (.cells #[.slice (some ⟨b, off, none⟩) n2 c2, .slice (some ⟨bg, og, none⟩) gn gc, .slice KA kn kc, .int .i64 s1, .int .i64 s2, .int .i64 s3] 34)).cell? ⟨w.heap.size, 5, none⟩ = some (.int .i64 q3) ∧ ((w.alloc (.cells #[.slice A n c, .slice B m d, .int .i64 q0, .int .i64 q1, .int .i64 q2, .int .i64 q3] 39)).alloc (.cells #[.slice (some ⟨b, off, none⟩) n2 c2, .slice (some ⟨bg, og, none⟩) gn gc, .slice KA kn kc, .int .i64 s1, .int .i64 s2, .int .i64 s3] 34)).cell? ⟨w.heap.size + 1, 0, none⟩ = some (.slice (some ⟨b, off, none⟩) n2 c2) ∧ ((w.alloc (.cells #[.slice A n c, .slice B m d, .int .i64 q0, .int .i64 q1, .int .i64 q2, .int .i64 q3] 39)).alloc (.cells #[.slice (some ⟨b, off, none⟩) n2 c2, .slice (some ⟨bg, og, none⟩) gn gc, .slice KA kn kc, .int .i64 s1, .int .i64 s2, .int .i64 s3] 34)).cell? ⟨w.heap.size + 1, 1, none⟩ = some (.slice (some ⟨bg, og, none⟩) gn gc) ∧ ((w.alloc (.cells #[.slice A n c, .slice B m d, .int .i64 q0, .int .i64 q1, .int .i64 q2, .int .i64 q3] 39)).alloc (.cells #[.slice (some ⟨b, off, none⟩) n2 c2, .slice (some ⟨bg, og, none⟩) gn gc, .slice KA kn kc, .int .i64 s1, .int .i64 s2, .int .i64 s3] 34)).cell? ⟨bg, og + k, none⟩ = some (.slice RA rn rc) := by refine ⟨?_, ?_, ?_, ?_, ?_, ?_, ?_, ?_, ?_⟩ <;> first | assumption | simp [*, go_sem]
 have hS := fun (W : World) (h : Below ((w.alloc (.cells #[.slice A n c, .slice B m d, .int .i64 q0, .int .i64 q1, .int .i64 q2, .int .i64 q3] 39)).alloc (.cells #[.slice (some ⟨b, off, none⟩) n2 c2, .slice (some ⟨bg, og, none⟩) gn gc, .slice KA kn kc, .int .i64 s1, .int .i64 s2, .int .i64 s3] 34)).heap.size ((w.alloc (.cells #[.slice A n c, .slice B m d, .int .i64 q0, .int .i64 q1, .int .i64 q2, .int .i64 q3] 39)).alloc (.cells #[.slice (some ⟨b, off, none⟩) n2 c2, .slice (some ⟨bg, og, none⟩) gn gc, .slice KA kn kc, .int .i64 s1, .int .i64 s2, .int .i64 s3] 34)) W) => (⟨(h.cell (p := ⟨w.heap.size, 0, none⟩) (by first | assumption | (simp [go_sem]; done) | (simp [go_sem]; omega))).trans hR.1, (h.cell (p := ⟨w.heap.size, 1, none⟩) (by first | assumption | (simp [go_sem]; done) | (simp [go_sem]; omega))).trans hR.2.1, (h.cell (p := ⟨w.heap.size, 2, none⟩) (by first | assumption | (simp [go_sem]; done) | (simp [go_sem]; omega))).trans hR.2.2.1, (h.cell (p := ⟨w.heap.size, 3, none⟩) (by first | assumption | (simp [go_sem]; done) | (simp [go_sem]; omega))).trans hR.2.2.2.1, (h.cell (p := ⟨w.heap.size, 4, none⟩) (by first | assumption | (simp [go_sem]; done) | (simp [go_sem]; omega))).trans hR.2.2.2.2.1, (h.cell (p := ⟨w.heap.size, 5, none⟩) (by first | assumption | (simp [go_sem]; done) | (simp [go_sem]; omega))).trans hR.2.2.2.2.2.1, (h.cell (p := ⟨w.heap.size + 1, 0, none⟩) (by first | assumption | (simp [go_sem]; done) | (simp [go_sem]; omega))).trans hR.2.2.2.2.2.2.1, (h.cell (p := ⟨w.heap.size + 1, 1, none⟩) (by first | assumption | (simp [go_sem]; done) | (simp [go_sem]; omega))).trans hR.2.2.2.2.2.2.2.1, (h.cell (p := ⟨bg, og + k, none⟩) (by first | assumption | (simp [go_sem]; done) | (simp [go_sem]; omega))).trans hR.2.2.2.2.2.2.2.2⟩ : W.cell? ⟨w.heap.size, 0, none⟩ = some (.slice A n c) ∧ W.cell? ⟨w.heap.size, 1, none⟩ = some (.slice B m d) ∧ W.cell? ⟨w.heap.size, 2, none⟩ = some (.int .i64 q0) ∧ W.cell? ⟨w.heap.size, 3, none⟩ = some (.int .i64 q1) ∧ W.cell? ⟨w.heap.size, 4, none⟩ = some (.int .i64 q2) ∧ W.cell? ⟨w.heap.size, 5, none⟩ = some (.int .i64 q3) ∧ W.cell? ⟨w.heap.size + 1, 0, none⟩ = some (.slice (some ⟨b, off, none⟩) n2 c2) ∧ W.cell? ⟨w.heap.size + 1, 1, none⟩ = some (.slice (some ⟨bg, og, none⟩) gn gc) ∧ W.cell? ⟨bg, og + k, none⟩ = some (.slice RA rn rc))
 clear hR
 have hR : ((w.alloc (.cells #[.slice A n c, .slice B m d, .int .i64 q0, .int .i64 q1, .int .i64 q2, .int .i64 q3] 39)).alloc (.cells #[.slice (some ⟨b, off, none⟩) n2 c2, .slice (some ⟨bg, og, none⟩) gn gc, .slice KA kn kc, .int .i64 s1, .int .i64 s2, .int .i64 s3] 34)).cell? ⟨w.heap.size + 1, 0, none⟩ = some (.slice (some ⟨b, off, none⟩) n2 c2) ∧ ((w.alloc (.cells #[.slice A n c, .slice B m d, .int .i64 q0, .int .i64 q1, .int .i64 q2, .int .i64 q3] 39)).alloc (.cells #[.slice (some ⟨b, off, none⟩) n2 c2, .slice (some ⟨bg, og, none⟩) gn gc, .slice KA kn kc, .int .i64 s1, .int .i64 s2, .int .i64 s3] 34)).cell? ⟨b, off + k * 3, none⟩ = some (.slice NA nn nc) ∧ ((w.alloc (.cells #[.slice A n c, .slice B m d, .int .i64 q0, .int .i64 q1, .int .i64 q2, .int .i64 q3] 39)).alloc (.cells #[.slice (some ⟨b, off, none⟩) n2 c2, .slice (some ⟨bg, og, none⟩) gn gc, .slice KA kn kc, .int .i64 s1, .int .i64 s2, .int .i64 s3] 34)).cell? ⟨b, off + k * 3 + 1, none⟩ = some (.slice MA mn mc) ∧ ((w.alloc (.cells #[.slice A n c, .slice B m d, .int .i64 q0, .int .i64 q1, .int .i64 q2, .int .i64 q3] 39)).alloc (.cells #[.slice (some ⟨b, off, none⟩) n2 c2, .slice (some ⟨bg, og, none⟩) gn gc, .slice KA kn kc, .int .i64 s1, .int .i64 s2, .int .i64 s3] 34)).cell? ⟨b, off + k * 3 + 2, none⟩ = some (.bool it.2.2) := by refine ⟨?_, ?_, ?_, ?_⟩ <;> first | assumption | simp [*, go_sem]
 have hS2 := fun (W : World) (h : Below ((w.alloc (.cells #[.slice A n c, .slice B m d, .int .i64 q0, .int .i64 q1, .int .i64 q2, .int .i64 q3] 39)).alloc (.cells #[.slice (some ⟨b, off, none⟩) n2 c2, .slice (some ⟨bg, og, none⟩) gn gc, .slice KA kn kc, .int .i64 s1, .int .i64 s2, .int .i64 s3] 34)).heap.size ((w.alloc (.cells #[.slice A n c, .slice B m d, .int .i64 q0, .int .i64 q1, .int .i64 q2, .int .i64 q3] 39)).alloc (.cells #[.slice (some ⟨b, off, none⟩) n2 c2, .slice (some ⟨bg, og, none⟩) gn gc, .slice KA kn kc, .int .i64 s1, .int .i64 s2, .int .i64 s3] 34)) W) => (⟨(h.cell (p := ⟨w.heap.size + 1, 0, none⟩) (by first | assumption | (simp [go_sem]; done) | (simp [go_sem]; omega))).trans hR.1, (h.cell (p := ⟨b, off + k * 3, none⟩) (by first | assumption | (simp [go_sem]; done) | (simp [go_sem]; omega))).trans hR.2.1, (h.cell (p := ⟨b, off + k * 3 + 1, none⟩) (by first | assumption | (simp [go_sem]; done) | (simp [go_sem]; omega))).trans hR.2.2.1, (h.cell (p := ⟨b, off + k * 3 + 2, none⟩) (by first | assumption | (simp [go_sem]; done) | (simp [go_sem]; omega))).trans hR.2.2.2⟩ : W.cell? ⟨w.heap.size + 1, 0, none⟩ = some (.slice (some ⟨b, off, none⟩) n2 c2) ∧ W.cell? ⟨b, off + k * 3, none⟩ = some (.slice NA nn nc) ∧ W.cell? ⟨b, off + k * 3 + 1, none⟩ = some (.slice MA mn mc) ∧ W.cell? ⟨b, off + k * 3 + 2, none⟩ = some (.bool it.2.2))
 clear hR
 clear hc0 hc1 hc2 hcg
 go_enter Tryz.func92, Tryz.ntmps92
 go_wp2
 go_region_held3 (fun w' => w'.cell? ⟨w.heap.size, 0, none⟩ = some (.slice A n c) ∧ w'.cell? ⟨w.heap.size, 1, none⟩ = some (.slice B m d) ∧ w'.cell? ⟨w.heap.size, 2, none⟩ = some (.int .i64 q0) ∧ w'.cell? ⟨w.heap.size, 3, none⟩ = some (.int .i64 q1) ∧ w'.cell? ⟨w.heap.size, 4, none⟩ = some (.int .i64 q2) ∧ w'.cell? ⟨w.heap.size, 5, none⟩ = some (.int .i64 q3) ∧ w'.cell? ⟨w.heap.size + 1, 0, none⟩ = some (.slice (some ⟨b, off, none⟩) n2 c2) ∧ w'.cell? ⟨w.heap.size + 1, 1, none⟩ = some (.slice (some ⟨bg, og, none⟩) gn gc) ∧ w'.cell? ⟨bg, og + k, none⟩ = some (.slice RA rn rc)) (exact hS _ bl) (first | (go_at_call 148; ((with_reducible refine (cb _ bl).mono ?_); rintro e w' ⟨rfl, y1, rfl⟩)) | (go_at_call 149; ((with_reducible refine (cs _ bl).mono ?_); rintro e w' ⟨rfl, y2, rfl⟩)))
 all_goals
  go_wp2
  go_region_held3 (fun w' => w'.cell? ⟨w.heap.size + 1, 0, none⟩ = some (.slice (some ⟨b, off, none⟩) n2 c2) ∧ w'.cell? ⟨b, off + k * 3, none⟩ = some (.slice NA nn nc) ∧ w'.cell? ⟨b, off + k * 3 + 1, none⟩ = some (.slice MA mn mc) ∧ w'.cell? ⟨b, off + k * 3 + 2, none⟩ = some (.bool it.2.2)) (exact hS2 _ bl) (first | (go_at_call 150; ((with_reducible refine (c0 _).mono ?_); rintro e w' ⟨rfl, rfl⟩)) | (go_at_call 151; ((with_reducible refine (cw _ bl _ (RdI.three_ (by simp [go_sem]) (by simp [go_sem]) (by simp [go_sem]) (by simp [go_sem]))).mono ?_); rintro e w' ⟨rfl, y3, rfl⟩)) | (go_at_call 152; ((with_reducible refine (ct _ bl).mono ?_); rintro e w' ⟨rfl, y4, rfl⟩)))
  all_goals
   go_wp2
   go_ret
   exact ⟨ret_str (by rw [HV.out, lineA_eq]), ext_ex bl⟩
end Go.Proofs.YtmeaklaagglmeaaGreatDoor
namespace Go.Proofs.YtmeaklaagglmeaaGreatDoor
open Go.RowKit
def RetSK (w : World) (s : ByteArray) (ok : Bool) (e : Ending) (w' : World) : Prop := ∃ x, e = .returned (.tuple #[.string s, .bool ok]) ∧ w' = ext w x
theorem RetSK.mk_ {w W : World} {s s' : ByteArray} {ok ok' : Bool} (hs : s' = s) (hk : ok' = ok) (hb : Below w.heap.size w W) : RetSK w s ok (.returned (.tuple #[.string s', .bool ok'])) W := by
 subst hs hk
 obtain ⟨x, rfl⟩ := ext_ex hb
 exact ⟨x, rfl, rfl⟩
end Go.Proofs.YtmeaklaagglmeaaGreatDoor
