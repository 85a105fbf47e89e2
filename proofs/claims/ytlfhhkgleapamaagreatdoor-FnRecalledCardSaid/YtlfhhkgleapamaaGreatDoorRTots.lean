/- Scores of components and items, deductions and the parts of a score; plain. Conditions: none. -/
import Derived.Test.YtlfhhkgleapamaaGreatDoorRTrims
import Derived.Test.YtlfhhkgleapamaaGreatDoorRBase0
import Derived.Test.YtlfhhkgleapamaaGreatDoorRLines
import Derived.Lib.MinMax
import Derived.Test.YtlfhhkgleapamaaGreatDoorRTxts
set_option linter.unusedVariables false
set_option linter.unusedSimpArgs false
set_option maxRecDepth 100000
set_option maxHeartbeats 16000000
namespace Go.Proofs.YtlfhhkgleapamaaGreatDoor
open Go.RowKit
variable {a b c factor falls q0 q1 q2 q3 s1 s2 s3 : Int} {gg kk : List (List Int)} {l : List Int} {its : List It} {k : Nat} {w : World}
def mapN (f : Nat -> Int) (k : Nat) : List Int := (List.range k).map f
theorem mapN_len (f : Nat -> Int) (k : Nat) : (mapN f k).length = k := by simp [mapN]
theorem mapN_succ (f : Nat -> Int) (k : Nat) : mapN f (k + 1) = mapN f k ++ [f k] := by simp [mapN, List.range_succ]
theorem mapN_zero (f : Nat -> Int) : mapN f 0 = [] := rfl
theorem mapN_mem {f : Nat -> Int} {P : Int -> Prop} (h : ∀ j, j < k -> P (f j)) : ∀ x ∈ mapN f k, P x := by
 intro x hx;obtain ⟨j, hj, rfl⟩ := List.mem_map.1 hx;exact h j (by simpa using hj)
theorem mapN_get {f : Nat -> Int} {n k : Nat} (h : k < n) : (mapN f n)[k]?.getD 0 = f k := by simp [mapN, h]
def sumN (f : Nat -> Int) (k : Nat) : Int := (mapN f k).sum
theorem sumN_zero (f : Nat -> Int) : sumN f 0 = 0 := rfl
theorem sumN_succ (f : Nat -> Int) (k : Nat) : sumN f (k + 1) = sumN f k + f k := by simp [sumN, mapN_succ]
theorem sumN_to (f : Nat -> Int) (k : Nat) : sumTo (mapN f k) k = sumN f k := by
 rw [sumTo, List.take_of_length_le (by rw [mapN_len]; omega)]; rfl
theorem sumN_bd {f : Nat -> Int} (k : Nat) (h : ∀ j, j < k -> -c <= f j /\ f j <= c) : -(c * k) <= sumN f k /\ sumN f k <= c * k := by
 induction k with
 | zero => simp [sumN_zero]
 | succ k ih =>
  have := ih fun j hj => h j Om
  have := h k Om;rw [sumN_succ, Int.natCast_succ, Int.mul_add, Int.mul_one];omega
def KrG (l : List Int) : Prop := (3 <= l.length /\ l.length <= 9) /\ ∀ x ∈ l, 0 <= x /\ x <= 1000
theorem kRow_of (h : marksB gg kk = true) (hk : k < kk.length) : KrG (kk[k]?.getD []) := by
 have hm := marksB_of h;simp only [marksB, Bool.and_eq_true] at h;have hc := h.2.1.2;have := List.all_eq_true.1 hc _ (getD_mem [] kk k hk);simp only [cRowB, Bool.and_eq_true, decide_eq_true_eq] at this;refine ⟨by rw [this.1]; exact hm.2.2.1, fun x hx => ?_⟩;have := List.all_eq_true.1 this.2 x hx;simp only [compB, Bool.and_eq_true] at this;exact inB_iff.1 this.1
def cmV (l : List Int) : Int := roundV (trimS l) (trimN l : Nat)
theorem cm_trim (h : KrG l) : (-11000 <= trimS l /\ trimS l <= 11000) /\ 3 <= trimN l /\ trimN l <= 7 := by
 have h1 := trimS_bd (c := 1000) Om (by have := h.1; omega) h.1.2 (fun x hx => by have := h.2 x hx; omega);exact ⟨Om, trimN_bd h.1.1 h.1.2⟩
theorem cmV_bd (h : KrG l) : -22007 <= cmV l /\ cmV l <= 22007 := by
 have h1 := cm_trim h;have := round_bd (a := trimS l) (b := (trimN l : Nat)) (A := 11000) (B := 7) Om Om Om Om Om;unfold cmV;omega
def cmAt (kk : List (List Int)) (k : Nat) : Int := cmV (kk[k]?.getD [])
def ceilV (falls : Int) : Int := if falls = 0 then 1000 else if falls = 1 then 950 else 900
theorem ceilV_bd (falls : Int) : 900 <= ceilV falls /\ ceilV falls <= 1000 := by unfold ceilV; split; omega; split <;> omega
def capAt (kk : List (List Int)) (most : Int) (k : Nat) : Int := min (cmAt kk k) most
theorem capAt_bd {most : Int} (h : KrG (kk[k]?.getD [])) (hm : 900 <= most /\ most <= 1000) : -22007 <= capAt kk most k /\ capAt kk most k <= 22007 := by
 have := cmV_bd h;unfold capAt cmAt;omega
def capV (kk : List (List Int)) (falls : Int) : Int := sumN (capAt kk (ceilV falls)) 3
theorem capV_bd (h : marksB gg kk = true) : -66021 <= capV kk falls /\ capV kk falls <= 66021 := by
 have := sumN_bd (f := capAt kk (ceilV falls)) (c := 22007) 3 (fun j hj => capAt_bd (kRow_of h (by have := (marksB_of h).1; omega)) (ceilV_bd falls));unfold capV;omega
def facV (kk : List (List Int)) (factor falls : Int) : Int := roundV (capV kk falls * factor) 100
theorem cap_mul (h : marksB gg kk = true) (hf : 10 <= factor /\ factor <= 400) : -26408400 <= capV kk falls * factor /\ capV kk falls * factor <= 26408400 := by
 have h1 := capV_bd (falls := falls) h;have := mul_bd (A := 66021) (B := 400) (a := capV kk falls) (b := factor) Om Om Om Om;omega
theorem facV_bd (h : marksB gg kk = true) (hf : 10 <= factor /\ factor <= 400) : -52816900 <= facV kk factor falls /\ facV kk factor falls <= 52816900 := by
 have h1 := cap_mul (falls := falls) h hf;have := round_bd (a := capV kk falls * factor) (b := 100) (A := 26408400) (B := 100) Om Om Om Om Om;unfold facV;omega
def fallMul (falls : Int) : Int := falls + max (falls - 2) 0 + max (falls - 4) 0
def fallV (fall falls : Int) : Int := fall * fallMul falls
def fallAt (fall : Int) (k : Nat) : Int := fall * min 3 ((k : Int) / 2 + 1)
theorem fallMul_succ (k : Nat) : fallMul ((k : Int) + 1) = fallMul k + min 3 ((k : Int) / 2 + 1) := by unfold fallMul; omega
theorem fall_sum (fall : Int) (k : Nat) : sumN (fallAt fall) k = fallV fall k := by
 induction k with
 | zero => rw [sumN_zero, fallV, show fallMul ((0 : Nat) : Int) = 0 by unfold fallMul; omega, Int.mul_zero]
 | succ k ih => rw [sumN_succ, ih, fallV, fallV, fallAt, Int.natCast_succ, fallMul_succ, Int.mul_add]
theorem fallMul_bd (h : 0 <= falls /\ falls <= 9) : 0 <= fallMul falls /\ fallMul falls <= 21 := by unfold fallMul; omega
theorem fallV_bd {fall : Int} (hf : 0 <= fall /\ fall <= 500) (h : 0 <= falls /\ falls <= 9) : -10500 <= fallV fall falls /\ fallV fall falls <= 10500 := by
 have h1 := fallMul_bd h;have := mul_bd (A := 500) (B := 21) (a := fall) (b := fallMul falls) Om Om Om Om;unfold fallV;omega
def timeV (s : Int) : Int := (s + 4) / 5 * 100
theorem timeV_bd {s : Int} (h : 0 <= s /\ s <= 60) : 0 <= timeV s /\ timeV s <= 1200 := by
 unfold timeV;omega
def dedV (fall s1 s2 s3 : Int) : Int := fallV fall s1 + timeV s2 + s3
theorem slip_of (h : slipB a b c = true) : (0 <= a /\ a <= 9) /\ (0 <= b /\ b <= 60) /\ 0 <= c /\ c <= 500 := by
 simp only [slipB, Bool.and_eq_true] at h;exact ⟨inB_iff.1 h.1, inB_iff.1 h.2.1, inB_iff.1 h.2.2⟩
theorem dedV_bd {fall : Int} (hf : 0 <= fall /\ fall <= 500) (h : slipB a b c = true) : -12200 <= dedV fall a b c /\ dedV fall a b c <= 12200 := by
 have hs := slip_of h;have h1 := fallV_bd hf hs.1;have h2 := timeV_bd hs.2.1;unfold dedV;omega
theorem round_bd2 (hb : 30 <= b) (h1 : -110000 <= a) (h2 : a <= 110000) : -5000 <= roundV a b /\ roundV a b <= 5000 := by
 unfold roundV;have e := Int.mul_ediv_add_emod (2 * a + b) (2 * b);have m0 := Int.emod_nonneg (2 * a + b) (show 2 * b ≠ 0 by omega);have m1 := Int.emod_lt_of_pos (2 * a + b) (show 0 < 2 * b by omega);generalize (2 * a + b) % (2 * b) = r at *;generalize (2 * a + b) / (2 * b) = v at *;constructor
 ·
  apply Int.le_of_not_gt
  intro h;have : 2 * b * v <= 2 * b * (-5001) := Int.mul_le_mul_of_nonneg_left Om Om;omega
 ·
  apply Int.le_of_not_gt
  intro h;have : 2 * b * 5001 <= 2 * b * v := Int.mul_le_mul_of_nonneg_left Om Om;omega
theorem pts_bd2 {els : List El} {g : List Int} (hc : CodeG els q0 q1 q2) (hi : ItG els (its[k]?.getD zIt)) (hg : GrG g) : -5000 <= ptsV els q0 q1 q2 its k g /\ ptsV els q0 q1 q2 its k g <= 5000 := by
 have h1 := pts_mul hc hi hg;have h2 := trimN_bd hg.1.1 hg.1.2;unfold ptsV
 split
 ·
  omega
 ·
  exact round_bd2 Om h1.1 h1.2
def scAt (els : List El) (q0 q1 q2 : Int) (its : List It) (gg : List (List Int)) (k : Nat) : Int := baseV els q0 q1 q2 its k + ptsV els q0 q1 q2 its k (gg[k]?.getD [])
theorem scAt_bd {els : List El} (hc : CodeG els q0 q1 q2) (hi : ItG els (its[k]?.getD zIt)) (hg : GrG (gg[k]?.getD [])) : -20000 <= scAt els q0 q1 q2 its gg k /\ scAt els q0 q1 q2 its gg k <= 20000 := by
 have h1 := base_bd (its := its) (k := k) hc hi;have h2 := pts_bd2 (its := its) (k := k) hc hi hg;unfold scAt;omega
def techV (els : List El) (q0 q1 q2 : Int) (its : List It) (gg : List (List Int)) : Int := sumN (scAt els q0 q1 q2 its gg) its.length
theorem techV_bd {els : List El} (hc : CodeG els q0 q1 q2) (hi : ∀ j, j < its.length -> ItG els (its[j]?.getD zIt)) (hg : ∀ j, j < gg.length -> GrG (gg[j]?.getD [])) (hl : gg.length = its.length) (h14 : its.length <= 14) : -280000 <= techV els q0 q1 q2 its gg /\ techV els q0 q1 q2 its gg <= 280000 := by
 have := sumN_bd (f := scAt els q0 q1 q2 its gg) (c := 20000) its.length (fun j hj => scAt_bd hc (hi j hj) (hg j Om));unfold techV;omega
def partsV (t f d : Int) : List Int := [t, f, d, max (t + f - d) 0]
def partsP (els : List El) (q0 q1 q2 q3 : Int) (its : List It) (gg kk : List (List Int)) (s1 s2 s3 factor : Int) : List Int :=
 partsV (techV els q0 q1 q2 its gg) (facV kk factor s1) (dedV q3 s1 s2 s3)
theorem itemScore_any (w : World) (A B : OA) (n m c d : Nat) (els : List El) (q0 q1 q2 q3 : Int) (I : OA) (n2 c2 : Nat) (its : List It) (k : Nat) (hG : GP w A n els q0 q1 q2 I n2 c2 its) (hk : k < n2) (GA KA : OA) (gn gc kn kc : Nat) (gg : List (List Int)) (hg : RdM w GA gn gg) (hkg : k < gn) (hgg : GrG (gg[k]?.getD [])) :
  Calls Tryz.prog 224 #[.agg #[.slice A n c, .slice B m d, .int .i64 q0, .int .i64 q1, .int .i64 q2, .int .i64 q3], .slice I n2 c2, .agg #[.slice GA gn gc, .slice KA kn kc], .int .i64 k] w (fun e w' => e = .returned (.int .i64 (scAt els q0 q1 q2 its gg k)) /\ ∃ y, w' = ext w y) := by
 obtain ⟨bg, og, RA, rn, rc, rfl, hbg, hcg, hr, _, _⟩ := hg.at_ k hkg;have cb := fun W h => itemBaseG W A B n m c d els q0 q1 q2 q3 I n2 c2 its k (hG.below h) hk
 have cp := fun W h => pointsFor_any W A B n m c d els q0 q1 q2 q3 I n2 c2 its k (hG.below h) hk RA rn rc _ (hr.below h) hgg
 have hIk := hG.2.2.2.2 k (by rw [hG.2.1.len]; exact hk);have hb1 := base_bd (its := its) (k := k) hG.1.2.2 hIk;have hb2 := pts_bd (its := its) (k := k) hG.1.2.2 hIk hgg;have HV : Hid (scAt els q0 q1 q2 its gg k = baseV els q0 q1 q2 its k + ptsV els q0 q1 q2 its k (gg[k]?.getD [])) := rfl;clear hG hg hgg hIk hr;generalize baseV els q0 q1 q2 its k = bv at *;generalize ptsV els q0 q1 q2 its k (gg[k]?.getD []) = pv at *;have e1 : IntKind.i64.wrap (bv + pv) = bv + pv := IntWalk.i64_in _ Om;have hS := fun W h => kS (R := ((w.alloc (oC A n c B m d q0 q1 q2 q3)).alloc (.cells #[.slice (some ⟨bg, og, none⟩) gn gc, .slice KA kn kc] 31))) (W := W) (l := [(⟨w.heap.size, 0, none⟩, .slice A n c), (⟨w.heap.size, 1, none⟩, .slice B m d), (⟨w.heap.size, 2, none⟩, .int .i64 q0), (⟨w.heap.size, 3, none⟩, .int .i64 q1), (⟨w.heap.size, 4, none⟩, .int .i64 q2), (⟨w.heap.size, 5, none⟩, .int .i64 q3), (⟨w.heap.size + 1, 0, none⟩, .slice (some ⟨bg, og, none⟩) gn gc), (⟨bg, og + k, none⟩, .slice RA rn rc)]) h
 clear hcg;go_enter Tryz.func224, Tryz.ntmps224;go_wp2
 go_region_held3 (fun w' => w'.cell? ⟨w.heap.size, 0, none⟩ = some (.slice A n c) /\ w'.cell? ⟨w.heap.size, 1, none⟩ = some (.slice B m d) /\ w'.cell? ⟨w.heap.size, 2, none⟩ = some (.int .i64 q0) /\ w'.cell? ⟨w.heap.size, 3, none⟩ = some (.int .i64 q1) /\ w'.cell? ⟨w.heap.size, 4, none⟩ = some (.int .i64 q2) /\ w'.cell? ⟨w.heap.size, 5, none⟩ = some (.int .i64 q3) /\ w'.cell? ⟨w.heap.size + 1, 0, none⟩ = some (.slice (some ⟨bg, og, none⟩) gn gc) /\ w'.cell? ⟨bg, og + k, none⟩ = some (.slice RA rn rc)) (exact hS _ bL) (first | (go_at_call 110; ((with_reducible refine (cb _ bL).mono ?_); rintro e w' ⟨rfl, y1, rfl⟩)) | (go_at_call 111; ((with_reducible refine (cp _ bL).mono ?_); rintro e w' ⟨rfl, y2, rfl⟩)))
 all_goals
  go_wp2;go_ret;exact ⟨ret_int (by rw [HV.out]), ext_ex bL⟩
theorem elScores_any (w : World) (A B : OA) (n m c d : Nat) (els : List El) (q0 q1 q2 q3 : Int) (I : OA) (n2 c2 : Nat) (its : List It) (GA KA : OA) (gn gc kn kc : Nat) (gg kk : List (List Int)) (s1 s2 s3 : Int) (hM : PP w A n els I n2 c2 its GA gn gg) (hP : PerfG els q0 q1 q2 q3 its gg kk s1 s2 s3) :
  Calls Tryz.prog 193 #[.agg #[.slice A n c, .slice B m d, .int .i64 q0, .int .i64 q1, .int .i64 q2, .int .i64 q3], .slice I n2 c2, .agg #[.slice GA gn gc, .slice KA kn kc]] w (RetI w (mapN (scAt els q0 q1 q2 its gg) n2)) := by
 have Hl := Lib.hid hM.2.1.1.len;have Hgl := Lib.hid hM.2.2.len;have hgl := hP.glen;rw [Hl.out, Hgl.out] at hgl;have hlen := hP.len;rw [Hl.out] at hlen;have hG := hM.gp hP;have cs := fun W (h : Below w.heap.size w W) (k : Nat) (hk : k < n2) => elScore_any W A B n m c d els q0 q1 q2 q3 I n2 c2 its k (hG.below h) hk GA KA gn gc kn kc gg (hM.2.2.below h) Om (hP.grs k (by rw [Hgl.out]; omega))
 have cs : ∀ W (h : Below w.heap.size w W) (k : Nat) (hk : k < n2), Calls Tryz.prog 118 #[.agg #[.slice A n c, .slice B m d, .int .i64 q0, .int .i64 q1, .int .i64 q2, .int .i64 q3], .slice I n2 c2, .agg #[.slice GA gn gc, .slice KA kn kc], .int .i64 k] W (fun e w' => e = .returned (.int .i64 (scAt els q0 q1 q2 its gg k)) /\ ∃ y, w' = ext W y) := cs;have HS := fun k => Lib.hid (mapN_succ (scAt els q0 q1 q2 its gg) k)
 clear hM hP hG hgl;go_enter Tryz.func193, Tryz.ntmps193;go_wp2
 go_loopw [7, 8, 11] (fun t _ i wr => ∃ (k : Nat) (D : OA) (dc : Nat) (y : World), k <= n2 /\ i = .int .i64 k /\ t = .slice D k dc /\ wr = ext ((w.alloc (oC A n c B m d q0 q1 q2 q3)).alloc (.cells #[.slice GA gn gc, .slice KA kn kc] 31)) y /\ OwI ((w.alloc (oC A n c B m d q0 q1 q2 q3)).alloc (.cells #[.slice GA gn gc, .slice KA kn kc] 31)).heap.size (ext ((w.alloc (oC A n c B m d q0 q1 q2 q3)).alloc (.cells #[.slice GA gn gc, .slice KA kn kc] 31)) y) D k dc (mapN (scAt els q0 q1 q2 its gg) k)) (fun _ _ i _ => n2 - (intOf i).toNat)
 case atStart =>
  obtain ⟨y, hy⟩ := ext_ex (Below.refl ((w.alloc (oC A n c B m d q0 q1 q2 q3)).alloc (.cells #[.slice GA gn gc, .slice KA kn kc] 31)).heap.size ((w.alloc (oC A n c B m d q0 q1 q2 q3)).alloc (.cells #[.slice GA gn gc, .slice KA kn kc] 31)));exact ⟨0, none, 0, y, Om, rfl, rfl, hy, by rw [mapN_zero]; exact OwI.nil_⟩
 case round =>
  obtain ⟨k, D, dc, y, hk, rfl, rfl, rfl, ho⟩ := hrel;by_cases hlt : k < n2
  ·
   have ck := fun W h => cs W h k hlt
   have HSk := HS k;have hkb : k <= 1099511627776 := Om;clear cs HS;generalize mapN (scAt els q0 q1 q2 its gg) k = out at *;generalize scAt els q0 q1 q2 its gg k = v at *;have f0 := ((by repeat (first | exact Below.refl _ _ | assumption | refine bExt ?_ _ | refine bAlloc ?_ _ | refine bDrewN ?_ _ | refine bDrew ?_ | refine bSet ?_ (by first | exact Nat.le_refl _ | omega | (simp; done) | (simp; omega)) _) : Below ((w.alloc (oC A n c B m d q0 q1 q2 q3)).alloc (.cells #[.slice GA gn gc, .slice KA kn kc] 31)).heap.size ((w.alloc (oC A n c B m d q0 q1 q2 q3)).alloc (.cells #[.slice GA gn gc, .slice KA kn kc] 31)) (ext ((w.alloc (oC A n c B m d q0 q1 q2 q3)).alloc (.cells #[.slice GA gn gc, .slice KA kn kc] 31)) y)));go_wp2_with (first | (go_at_call 118; ((with_reducible refine (ck _ bL).mono ?_); rintro e w' ⟨rfl, x, rfl⟩)) | (at_builtin; (refine wpl_push_int ((w.alloc (oC A n c B m d q0 q1 q2 q3)).alloc (.cells #[.slice GA gn gc, .slice KA kn kc] 31)) _ _ _ ?_ rfl _ _ rfl D k dc _ rfl ho ?_ ?_ rfl hkb ?_); (focus (first | rfl | (simp; done))); exact bL; exact bL; intro D' c' y' ho' hg hd))
   go_roundw
   case rel => exact ⟨k + 1, D', c', y', Om, by go_num, rfl, rfl, by rw [HSk.out]; exact ho'⟩
   case measure => simp [intOf]; omega
  ·
   obtain rfl : k = n2 := Om;go_wp2;go_ret;exact RetI.mk_ ho (by first | (simp [go_sem]; done) | (simp [go_sem]; omega)) bL
theorem itemScores_any (w : World) (A B : OA) (n m c d : Nat) (els : List El) (q0 q1 q2 q3 : Int) (I : OA) (n2 c2 : Nat) (its : List It) (GA KA : OA) (gn gc kn kc : Nat) (gg kk : List (List Int)) (s1 s2 s3 : Int) (hM : PP w A n els I n2 c2 its GA gn gg) (hP : PerfG els q0 q1 q2 q3 its gg kk s1 s2 s3) :
  Calls Tryz.prog 188 #[.agg #[.slice A n c, .slice B m d, .int .i64 q0, .int .i64 q1, .int .i64 q2, .int .i64 q3], .slice I n2 c2, .agg #[.slice GA gn gc, .slice KA kn kc]] w (RetI w (mapN (scAt els q0 q1 q2 its gg) n2)) := by
 have Hl := Lib.hid hM.2.1.1.len;have Hgl := Lib.hid hM.2.2.len;have hgl := hP.glen;rw [Hl.out, Hgl.out] at hgl;have hlen := hP.len;rw [Hl.out] at hlen;have hG := hM.gp hP;have cs := fun W (h : Below w.heap.size w W) (k : Nat) (hk : k < n2) => itemScore_any W A B n m c d els q0 q1 q2 q3 I n2 c2 its k (hG.below h) hk GA KA gn gc kn kc gg (hM.2.2.below h) Om (hP.grs k (by rw [Hgl.out]; omega))
 have cs : ∀ W (h : Below w.heap.size w W) (k : Nat) (hk : k < n2), Calls Tryz.prog 224 #[.agg #[.slice A n c, .slice B m d, .int .i64 q0, .int .i64 q1, .int .i64 q2, .int .i64 q3], .slice I n2 c2, .agg #[.slice GA gn gc, .slice KA kn kc], .int .i64 k] W (fun e w' => e = .returned (.int .i64 (scAt els q0 q1 q2 its gg k)) /\ ∃ y, w' = ext W y) := cs;have HS := fun k => Lib.hid (mapN_succ (scAt els q0 q1 q2 its gg) k)
 clear hM hP hG hgl;go_enter Tryz.func188, Tryz.ntmps188;go_wp2
 go_loopw [7, 8, 12] (fun t _ i wr => ∃ (k : Nat) (D : OA) (dc : Nat) (y : World), k <= n2 /\ i = .int .i64 k /\ t = .slice D k dc /\ wr = ext ((w.alloc (oC A n c B m d q0 q1 q2 q3)).alloc (.cells #[.slice GA gn gc, .slice KA kn kc] 31)) y /\ OwI ((w.alloc (oC A n c B m d q0 q1 q2 q3)).alloc (.cells #[.slice GA gn gc, .slice KA kn kc] 31)).heap.size (ext ((w.alloc (oC A n c B m d q0 q1 q2 q3)).alloc (.cells #[.slice GA gn gc, .slice KA kn kc] 31)) y) D k dc (mapN (scAt els q0 q1 q2 its gg) k)) (fun _ _ i _ => n2 - (intOf i).toNat)
 case atStart =>
  obtain ⟨y, hy⟩ := ext_ex (show Below ((w.alloc (oC A n c B m d q0 q1 q2 q3)).alloc (.cells #[.slice GA gn gc, .slice KA kn kc] 31)).heap.size ((w.alloc (oC A n c B m d q0 q1 q2 q3)).alloc (.cells #[.slice GA gn gc, .slice KA kn kc] 31)) (((w.alloc (oC A n c B m d q0 q1 q2 q3)).alloc (.cells #[.slice GA gn gc, .slice KA kn kc] 31)).alloc (.cells #[] 3)) from bL);have o0 := OwI.lit_ (Below.refl _ ((w.alloc (oC A n c B m d q0 q1 q2 q3)).alloc (.cells #[.slice GA gn gc, .slice KA kn kc] 31))) [] (by simp [maxLen]) #[] rfl;rw [hy] at o0;exact ⟨0, _, 0, y, Om, rfl, rfl, hy, by simpa [go_sem, mapN] using o0⟩
 case round =>
  obtain ⟨k, D, dc, y, hk, rfl, rfl, rfl, ho⟩ := hrel;by_cases hlt : k < n2
  ·
   have ck := fun W h => cs W h k hlt
   have HSk := HS k;have hkb : k <= 1099511627776 := Om;clear cs HS;generalize mapN (scAt els q0 q1 q2 its gg) k = out at *;generalize scAt els q0 q1 q2 its gg k = v at *;have f0 := ((by repeat (first | exact Below.refl _ _ | assumption | refine bExt ?_ _ | refine bAlloc ?_ _ | refine bDrewN ?_ _ | refine bDrew ?_ | refine bSet ?_ (by first | exact Nat.le_refl _ | omega | (simp; done) | (simp; omega)) _) : Below ((w.alloc (oC A n c B m d q0 q1 q2 q3)).alloc (.cells #[.slice GA gn gc, .slice KA kn kc] 31)).heap.size ((w.alloc (oC A n c B m d q0 q1 q2 q3)).alloc (.cells #[.slice GA gn gc, .slice KA kn kc] 31)) (ext ((w.alloc (oC A n c B m d q0 q1 q2 q3)).alloc (.cells #[.slice GA gn gc, .slice KA kn kc] 31)) y)));go_wp2_with (first | (go_at_call 224; ((with_reducible refine (ck _ bL).mono ?_); rintro e w' ⟨rfl, x, rfl⟩)) | (at_builtin; (refine wpl_push_int ((w.alloc (oC A n c B m d q0 q1 q2 q3)).alloc (.cells #[.slice GA gn gc, .slice KA kn kc] 31)) _ _ _ ?_ rfl _ _ rfl D k dc _ rfl ho ?_ ?_ rfl hkb ?_); (focus (first | rfl | (simp; done))); exact bL; exact bL; intro D' c' y' ho' hg hd))
   go_roundw
   case rel => exact ⟨k + 1, D', c', y', Om, by go_num, rfl, rfl, by rw [HSk.out]; exact ho'⟩
   case measure => simp [intOf]; omega
  ·
   obtain rfl : k = n2 := Om;go_wp2;go_ret;exact RetI.mk_ ho (by first | (simp [go_sem]; done) | (simp [go_sem]; omega)) bL
theorem componentScore_any (w : World) (A : OA) (n c : Nat) (l : List Int) (ha : RdI w A n l) (hk : KrG l) :
  Calls Tryz.prog 246 #[.slice A n c] w (fun e w' => e = .returned (.int .i64 (cmV l)) /\ ∃ y, w' = ext w y) := by
 have hl := ha.len;have ht := cm_trim hk;have cm := fun W h => trimmedSum_any W A n c l (ha.below h) (by have := hk.1; omega) (by have := hk.1; omega) (fun x hx => by have := hk.2 x hx; omega)
 have HV : Hid (cmV l = roundV (trimS l) (trimN l : Nat)) := rfl;clear ha hk;generalize trimS l = ts at *;generalize trimN l = tn at *;have cr := fun W => roundDiv_any ts (tn : Nat) W Om Om Om Om
 go_enter Tryz.func246, Tryz.ntmps246;go_wp2_with (first | (go_at_call 160; ((with_reducible refine (cm _ bL).mono ?_); rintro e w' ⟨rfl, y1, rfl⟩)) | (go_at_call 161; (with_reducible refine ep (cr _) ?_)))
 go_ret;exact ⟨ret_int (by rw [HV.out]), ext_ex bL⟩
theorem cpScore_any (w : World) (GA KA : OA) (gn gc kn kc : Nat) (kk : List (List Int)) (hK : RdM w KA kn kk) (k : Nat) (hkn : k < kn) (hk : KrG (kk[k]?.getD [])) :
  Calls Tryz.prog 247 #[.agg #[.slice GA gn gc, .slice KA kn kc], .int .i64 k] w (fun e w' => e = .returned (.int .i64 (cmAt kk k)) /\ ∃ y, w' = ext w y) := by
 obtain ⟨b, off, RA, rn, rc, rfl, hb, hc, ha, _, _⟩ := hK.at_ k hkn;have hl := ha.len;have ht := cm_trim hk;have cm := fun W h => tmMean_any W RA rn rc _ (ha.below h) (by have := hk.1; omega) (by have := hk.1; omega) (fun x hx => by have := hk.2 x hx; omega)
 have HV : Hid (cmAt kk k = roundV (trimS (kk[k]?.getD [])) (trimN (kk[k]?.getD []) : Nat)) := rfl;clear ha hk hK hl;generalize trimS (kk[k]?.getD []) = ts at *;generalize trimN (kk[k]?.getD []) = tn at *;have cr := fun W => poRound_any ts (tn : Nat) W Om Om Om Om
 go_enter Tryz.func247, Tryz.ntmps247;go_wp2_with (first | (go_at_call 241; ((with_reducible refine (cm _ bL).mono ?_); rintro e w' ⟨rfl, y1, rfl⟩)) | (go_at_call 194; (with_reducible refine ep (cr _) ?_)))
 go_ret;exact ⟨ret_int (by rw [HV.out]), ext_ex bL⟩
theorem componentScores_any (w : World) (GA KA : OA) (gn gc kn kc : Nat) (kk : List (List Int)) (hK : RdM w KA kn kk) (hkn : kn <= 1000) (hk : ∀ k, k < kn -> KrG (kk[k]?.getD [])) :
  Calls Tryz.prog 225 #[.agg #[.slice GA gn gc, .slice KA kn kc]] w (RetI w (mapN (cmAt kk) kn)) := by
 have HS := fun k => Lib.hid (mapN_succ (cmAt kk) k)
 go_enter Tryz.func225, Tryz.ntmps225;go_wp2
 go_loopw [3, 5, 10] (fun t _ i wr => ∃ (k : Nat) (D : OA) (dc : Nat) (y : World), k <= kn /\ i = .int .i64 k /\ t = .slice D k dc /\ wr = ext (w.alloc (.cells #[.slice GA gn gc, .slice KA kn kc] 31)) y /\ OwI (w.alloc (.cells #[.slice GA gn gc, .slice KA kn kc] 31)).heap.size (ext (w.alloc (.cells #[.slice GA gn gc, .slice KA kn kc] 31)) y) D k dc (mapN (cmAt kk) k)) (fun _ _ i _ => kn - (intOf i).toNat)
 case atStart =>
  obtain ⟨y, hy⟩ := ext_ex (show Below (w.alloc (.cells #[.slice GA gn gc, .slice KA kn kc] 31)).heap.size (w.alloc (.cells #[.slice GA gn gc, .slice KA kn kc] 31)) ((w.alloc (.cells #[.slice GA gn gc, .slice KA kn kc] 31)).alloc (.cells #[] 3)) from bL);have o0 := OwI.lit_ (Below.refl _ (w.alloc (.cells #[.slice GA gn gc, .slice KA kn kc] 31))) [] (by simp [maxLen]) #[] rfl;rw [hy] at o0;exact ⟨0, _, 0, y, Om, rfl, rfl, hy, by simpa [go_sem, mapN] using o0⟩
 case round =>
  obtain ⟨k, D, dc, y, hkk, rfl, rfl, rfl, ho⟩ := hrel;by_cases hlt : k < kn
  ·
   obtain ⟨b, off, RA, rn, rc, rfl, hb, hc, ha, _, _⟩ := hK.at_ k hlt;have ck : ∀ W (h : Below w.heap.size w W), Calls Tryz.prog 246 #[.slice RA rn rc] W (fun e w' => e = .returned (.int .i64 (cmAt kk k)) /\ ∃ y, w' = ext W y) := fun W h => componentScore_any W RA rn rc _ (ha.below h) (hk k hlt)
   have HSk := HS k;have hkb : k <= 1099511627776 := Om;clear HS ha hk hK;generalize mapN (cmAt kk) k = out at *;generalize cmAt kk k = v at *;have fc := ((by repeat (first | exact Below.refl _ _ | assumption | refine bExt ?_ _ | refine bAlloc ?_ _ | refine bDrewN ?_ _ | refine bDrew ?_ | refine bSet ?_ (by first | exact Nat.le_refl _ | omega | (simp; done) | (simp; omega)) _) : Below w.heap.size w (ext (w.alloc (.cells #[.slice GA gn gc, .slice (some ⟨b, off, none⟩) kn kc] 31)) y)).cell (p := ⟨b, off + k, none⟩) hb).trans hc;go_wp2_with (first | (go_at_call 246; ((with_reducible refine (ck _ bL).mono ?_); rintro e w' ⟨rfl, x, rfl⟩)) | (at_builtin; (refine wpl_push_int (w.alloc (.cells #[.slice GA gn gc, .slice (some ⟨b, off, none⟩) kn kc] 31)) _ _ _ ?_ rfl _ _ rfl D k dc _ rfl ho ?_ ?_ rfl hkb ?_); (focus (first | rfl | (simp; done))); exact bL; exact bL; intro D' c' y' ho' hg hd))
   go_roundw
   case rel => exact ⟨k + 1, D', c', y', Om, by go_num, rfl, rfl, by rw [HSk.out]; exact ho'⟩
   case measure => simp [intOf]; omega
  ·
   obtain rfl : k = kn := Om;go_wp2;go_ret;exact RetI.mk_ ho (by first | (simp [go_sem]; done) | (simp [go_sem]; omega)) bL
theorem cpScores_any (w : World) (GA KA : OA) (gn gc kn kc : Nat) (kk : List (List Int)) (hK : RdM w KA kn kk) (hkn : kn <= 1000) (hk : ∀ k, k < kn -> KrG (kk[k]?.getD [])) (most : Int) :
  Calls Tryz.prog 227 #[.agg #[.slice GA gn gc, .slice KA kn kc], .int .i64 most] w (RetI w (mapN (capAt kk most) kn)) := by
 have HS := fun k => Lib.hid (mapN_succ (capAt kk most) k)
 go_enter Tryz.func227, Tryz.ntmps227;go_wp2
 go_loopw [5, 6, 10] (fun t _ i wr => ∃ (k : Nat) (D : OA) (dc : Nat) (y : World), k <= kn /\ i = .int .i64 k /\ t = .slice D k dc /\ wr = ext (w.alloc (.cells #[.slice GA gn gc, .slice KA kn kc] 31)) y /\ OwI (w.alloc (.cells #[.slice GA gn gc, .slice KA kn kc] 31)).heap.size (ext (w.alloc (.cells #[.slice GA gn gc, .slice KA kn kc] 31)) y) D k dc (mapN (capAt kk most) k)) (fun _ _ i _ => kn - (intOf i).toNat)
 case atStart =>
  obtain ⟨y, hy⟩ := ext_ex (Below.refl (w.alloc (.cells #[.slice GA gn gc, .slice KA kn kc] 31)).heap.size (w.alloc (.cells #[.slice GA gn gc, .slice KA kn kc] 31)));exact ⟨0, none, 0, y, Om, rfl, rfl, hy, by rw [mapN_zero]; exact OwI.nil_⟩
 case round =>
  obtain ⟨k, D, dc, y, hkk, rfl, rfl, rfl, ho⟩ := hrel;by_cases hlt : k < kn
  ·
   have ck := fun W h => cpScore_any W GA KA gn gc kn kc kk (hK.below h) k hlt (hk k hlt)
   have cl := fun W => l1Least_any (cmAt kk k) most W
   have HSk : Hid (mapN (capAt kk most) (k + 1) = mapN (capAt kk most) k ++ [min (cmAt kk k) most]) := (HS k).out;have hkb : k <= 1099511627776 := Om;clear HS hk hK;generalize mapN (capAt kk most) k = out at *;generalize cmAt kk k = v at *;go_wp2_with (first | (go_at_call 247; ((with_reducible refine (ck _ bL).mono ?_); rintro e w' ⟨rfl, x, rfl⟩)) | (go_at_call 124; (with_reducible refine ep (cl _) ?_)) | (at_builtin; (refine wpl_push_int (w.alloc (.cells #[.slice GA gn gc, .slice KA kn kc] 31)) _ _ _ ?_ rfl _ _ rfl D k dc _ rfl ho ?_ ?_ rfl hkb ?_); (focus (first | rfl | (simp; done))); exact bL; exact bL; intro D' c' y' ho' hg hd))
   go_roundw
   case rel => exact ⟨k + 1, D', c', y', Om, by go_num, rfl, rfl, by rw [HSk.out]; exact ho'⟩
   case measure => simp [intOf]; omega
  ·
   obtain rfl : k = kn := Om;go_wp2;go_ret;exact RetI.mk_ ho (by first | (simp [go_sem]; done) | (simp [go_sem]; omega)) bL
theorem RetI.alloc_ {X : World} {g n m : Nat} {cs : Array Value} (hb : Below w.heap.size w X) (hg : g = X.heap.size) (hn : n = l.length) (hm : m = l.length) (hl : l.length <= 1000) (hcs : cs.toList = l.map (Value.int .i64)) : RetI w l (.returned (.slice (some ⟨g, 0, none⟩) n m)) (X.alloc (.cells cs 3)) := by
 subst hg hn hm;exact RetI.mk_ (OwI.lit_ hb l (by simp only [maxLen]; omega) cs hcs) (Nat.le_refl _) (bAlloc hb _)
theorem RetI.allocd_ {X : World} {g n m : Nat} {cs : Array Value} (hb : Below w.heap.size w X) (hg : g = X.heap.size) (hn : n = l.length) (hm : m = l.length) (hl : l.length <= 1000) (hcs : cs.toList = l.map (Value.int .i64)) : RetI w l (.returned (.slice (some ⟨g, 0, none⟩) n m)) (X.alloc (.cells cs 3)).drew := by
 subst hg hn hm;exact RetI.mk_ ((OwI.lit_ hb l (by simp only [maxLen]; omega) cs hcs).below (bDrew bR)) (Nat.le_refl _) (bDrew (bAlloc hb _))
theorem cappedSum_any (w : World) (GA KA : OA) (gn gc kn kc : Nat) (gg kk : List (List Int)) (hK : RdM w KA kn kk) (hm : marksB gg kk = true) (falls : Int) (hf : 0 <= falls) :
  Calls Tryz.prog 189 #[.agg #[.slice GA gn gc, .slice KA kn kc], .int .i64 falls] w (fun e w' => e = .returned (.int .i64 (capV kk falls)) /\ ∃ y, w' = ext w y) := by
 have Hl := Lib.hid hK.len;have h3 := (marksB_of hm).1;rw [Hl.out] at h3;obtain rfl := h3.symm;have hk : ∀ k, k < 3 -> KrG (kk[k]?.getD []) := fun k hk => kRow_of hm (by rw [Hl.out]; exact hk)
 have cc := fun W h => componentScores_any W GA KA gn gc 3 kc kk (hK.below h) Om hk
 rcases (show falls = 0 ∨ falls = 1 ∨ 1 < falls by omega) with h | h | h
 ·
  have HV : Hid (capV kk falls = sumN (capAt kk 1000) 3) := by unfold Hid capV ceilV; rw [if_pos h]
  have HG := fun k => @mapN_get (cmAt kk) 3 k
  have HS := fun k => Lib.hid (sumN_succ (capAt kk 1000) k)
  have HB : ∀ k, k <= 3 -> -66021 <= sumN (capAt kk 1000) k /\ sumN (capAt kk 1000) k <= 66021 := fun k hk3 => by
   have := sumN_bd (f := capAt kk 1000) (c := 22007) k (fun j hj => capAt_bd (hk j Om) Om);omega
  have HC : ∀ k, k < 3 -> -22007 <= cmAt kk k /\ cmAt kk k <= 22007 := fun k hk3 => cmV_bd (hk k hk3)
  subst h;clear hm hk hK;go_enter Tryz.func189, Tryz.ntmps189;go_wp2_with ((go_at_call 225; ((with_reducible refine (cc _ bL).mono ?_); rintro e w' ⟨A1, n1, c1, x1, rfl, rfl, o1⟩; (obtain rfl : n1 = 3 := o1.len.symm.trans (mapN_len _ 3)))))
  obtain ⟨g, rfl, hg1, hg2⟩ := o1.form_ Om;have hce := fun k (hk3 : k < 3) => o1.cell_ k hk3
  clear o1 cc
  go_loop [6, 8, 18] (fun t _ i => ∃ k : Nat, k <= 3 /\ i = .int .i64 k /\ t = .int .i64 (sumN (capAt kk 1000) k)) (fun _ _ i => 3 - (intOf i).toNat)
  case atStart => exact ⟨0, Om, rfl, rfl⟩
  case round =>
   obtain ⟨k, hk, rfl, rfl⟩ := hrel;by_cases hlt : k < 3
   ·
    have hck := hce k hlt;rw [HG k hlt] at hck;have h1 := HB k hk;have h2 := HC k hlt;have HSk : Hid (sumN (capAt kk 1000) (k + 1) = sumN (capAt kk 1000) k + min (cmAt kk k) 1000) := (HS k).out;clear hce HB HC HS HG;generalize cmAt kk k = x at *;generalize sumN (capAt kk 1000) k = s at *;have e1 : IntKind.i64.wrap (s + min x 1000) = s + min x 1000 := IntWalk.i64_in _ Om;go_wp2
    go_round
    case rel => exact ⟨k + 1, Om, by go_num, by rw [HSk.out]⟩
    case measure => simp [intOf]; omega
   ·
    obtain rfl : k = 3 := Om;go_wp2;go_ret;exact ⟨ret_int (by rw [HV.out]), ext_ex bL⟩
 ·
  have HV : Hid (capV kk falls = sumN (capAt kk 950) 3) := by unfold Hid capV ceilV; rw [if_neg Om, if_pos h]
  have HG := fun k => @mapN_get (cmAt kk) 3 k
  have HS := fun k => Lib.hid (sumN_succ (capAt kk 950) k)
  have HB : ∀ k, k <= 3 -> -66021 <= sumN (capAt kk 950) k /\ sumN (capAt kk 950) k <= 66021 := fun k hk3 => by
   have := sumN_bd (f := capAt kk 950) (c := 22007) k (fun j hj => capAt_bd (hk j Om) Om);omega
  have HC : ∀ k, k < 3 -> -22007 <= cmAt kk k /\ cmAt kk k <= 22007 := fun k hk3 => cmV_bd (hk k hk3)
  subst h;clear hm hk hK;go_enter Tryz.func189, Tryz.ntmps189;go_wp2_with ((go_at_call 225; ((with_reducible refine (cc _ bL).mono ?_); rintro e w' ⟨A1, n1, c1, x1, rfl, rfl, o1⟩; (obtain rfl : n1 = 3 := o1.len.symm.trans (mapN_len _ 3)))))
  obtain ⟨g, rfl, hg1, hg2⟩ := o1.form_ Om;have hce := fun k (hk3 : k < 3) => o1.cell_ k hk3
  clear o1 cc
  go_loop [6, 8, 18] (fun t _ i => ∃ k : Nat, k <= 3 /\ i = .int .i64 k /\ t = .int .i64 (sumN (capAt kk 950) k)) (fun _ _ i => 3 - (intOf i).toNat)
  case atStart => exact ⟨0, Om, rfl, rfl⟩
  case round =>
   obtain ⟨k, hk, rfl, rfl⟩ := hrel;by_cases hlt : k < 3
   ·
    have hck := hce k hlt;rw [HG k hlt] at hck;have h1 := HB k hk;have h2 := HC k hlt;have HSk : Hid (sumN (capAt kk 950) (k + 1) = sumN (capAt kk 950) k + min (cmAt kk k) 950) := (HS k).out;clear hce HB HC HS HG;generalize cmAt kk k = x at *;generalize sumN (capAt kk 950) k = s at *;have e1 : IntKind.i64.wrap (s + min x 950) = s + min x 950 := IntWalk.i64_in _ Om;go_wp2
    go_round
    case rel => exact ⟨k + 1, Om, by go_num, by rw [HSk.out]⟩
    case measure => simp [intOf]; omega
   ·
    obtain rfl : k = 3 := Om;go_wp2;go_ret;exact ⟨ret_int (by rw [HV.out]), ext_ex bL⟩
 ·
  have HV : Hid (capV kk falls = sumN (capAt kk 900) 3) := by unfold Hid capV ceilV; rw [if_neg Om, if_neg Om]
  have HG := fun k => @mapN_get (cmAt kk) 3 k
  have HS := fun k => Lib.hid (sumN_succ (capAt kk 900) k)
  have HB : ∀ k, k <= 3 -> -66021 <= sumN (capAt kk 900) k /\ sumN (capAt kk 900) k <= 66021 := fun k hk3 => by
   have := sumN_bd (f := capAt kk 900) (c := 22007) k (fun j hj => capAt_bd (hk j Om) Om);omega
  have HC : ∀ k, k < 3 -> -22007 <= cmAt kk k /\ cmAt kk k <= 22007 := fun k hk3 => cmV_bd (hk k hk3)
  have hn1 : ¬ falls = 1 := Om;clear hm hk hK;go_enter Tryz.func189, Tryz.ntmps189;go_wp2_with ((go_at_call 225; ((with_reducible refine (cc _ bL).mono ?_); rintro e w' ⟨A1, n1, c1, x1, rfl, rfl, o1⟩; (obtain rfl : n1 = 3 := o1.len.symm.trans (mapN_len _ 3)))))
  obtain ⟨g, rfl, hg1, hg2⟩ := o1.form_ Om;have hce := fun k (hk3 : k < 3) => o1.cell_ k hk3
  clear o1 cc
  go_loop [6, 8, 18] (fun t _ i => ∃ k : Nat, k <= 3 /\ i = .int .i64 k /\ t = .int .i64 (sumN (capAt kk 900) k)) (fun _ _ i => 3 - (intOf i).toNat)
  case atStart => exact ⟨0, Om, rfl, rfl⟩
  case round =>
   obtain ⟨k, hk, rfl, rfl⟩ := hrel;by_cases hlt : k < 3
   ·
    have hck := hce k hlt;rw [HG k hlt] at hck;have h1 := HB k hk;have h2 := HC k hlt;have HSk : Hid (sumN (capAt kk 900) (k + 1) = sumN (capAt kk 900) k + min (cmAt kk k) 900) := (HS k).out;clear hce HB HC HS HG;generalize cmAt kk k = x at *;generalize sumN (capAt kk 900) k = s at *;have e1 : IntKind.i64.wrap (s + min x 900) = s + min x 900 := IntWalk.i64_in _ Om;go_wp2
    go_round
    case rel => exact ⟨k + 1, Om, by go_num, by rw [HSk.out]⟩
    case measure => simp [intOf]; omega
   ·
    obtain rfl : k = 3 := Om;go_wp2;go_ret;exact ⟨ret_int (by rw [HV.out]), ext_ex bL⟩
theorem cpSum_any (w : World) (GA KA : OA) (gn gc kn kc : Nat) (gg kk : List (List Int)) (hK : RdM w KA kn kk) (hm : marksB gg kk = true) (falls : Int) (hf : 0 <= falls) :
  Calls Tryz.prog 195 #[.agg #[.slice GA gn gc, .slice KA kn kc], .int .i64 falls] w (fun e w' => e = .returned (.int .i64 (capV kk falls)) /\ ∃ y, w' = ext w y) := by
 have Hl := Lib.hid hK.len;have h3 := (marksB_of hm).1;rw [Hl.out] at h3;obtain rfl := h3.symm;have hk : ∀ k, k < 3 -> KrG (kk[k]?.getD []) := fun k hk => kRow_of hm (by rw [Hl.out]; exact hk)
 rcases (show falls = 0 ∨ falls = 1 ∨ 1 < falls by omega) with h | h | h
 ·
  have HV : Hid (capV kk falls = sumN (capAt kk 1000) 3) := by unfold Hid capV ceilV; rw [if_pos h]
  have cc := fun W h => cpScores_any W GA KA gn gc 3 kc kk (hK.below h) Om hk 1000
  have HB : Hid (∀ x ∈ mapN (capAt kk 1000) 3, -100000 <= x /\ x <= 100000) := mapN_mem fun j hj => by have := capAt_bd (most := 1000) (hk j hj) Om; omega
  have HT := Lib.hid (sumN_to (capAt kk 1000) 3);have hln := mapN_len (capAt kk 1000) 3;subst h;clear hm hk hK;generalize sumN (capAt kk 1000) 3 = sv at *;generalize mapN (capAt kk 1000) 3 = l at *;go_enter Tryz.func195, Tryz.ntmps195;go_wp2_with (first | (go_at_call 227; ((with_reducible refine (cc _ bL).mono ?_); rintro e w' ⟨A1, n1, c1, x1, rfl, rfl, o1⟩; (obtain rfl : n1 = 3 := o1.len.symm.trans hln))) | (go_at_call 192; (with_reducible refine ep (poSum_any _ _ _ _ _ o1.rd Om HB.out) ?_)))
  go_ret;exact ⟨ret_int (by rw [HV.out, HT.out]), ext_ex bL⟩
 ·
  have HV : Hid (capV kk falls = sumN (capAt kk 950) 3) := by unfold Hid capV ceilV; rw [if_neg Om, if_pos h]
  have cc := fun W h => cpScores_any W GA KA gn gc 3 kc kk (hK.below h) Om hk 950
  have HB : Hid (∀ x ∈ mapN (capAt kk 950) 3, -100000 <= x /\ x <= 100000) := mapN_mem fun j hj => by have := capAt_bd (most := 950) (hk j hj) Om; omega
  have HT := Lib.hid (sumN_to (capAt kk 950) 3);have hln := mapN_len (capAt kk 950) 3;subst h;clear hm hk hK;generalize sumN (capAt kk 950) 3 = sv at *;generalize mapN (capAt kk 950) 3 = l at *;go_enter Tryz.func195, Tryz.ntmps195;go_wp2_with (first | (go_at_call 227; ((with_reducible refine (cc _ bL).mono ?_); rintro e w' ⟨A1, n1, c1, x1, rfl, rfl, o1⟩; (obtain rfl : n1 = 3 := o1.len.symm.trans hln))) | (go_at_call 192; (with_reducible refine ep (poSum_any _ _ _ _ _ o1.rd Om HB.out) ?_)))
  go_ret;exact ⟨ret_int (by rw [HV.out, HT.out]), ext_ex bL⟩
 ·
  have HV : Hid (capV kk falls = sumN (capAt kk 900) 3) := by unfold Hid capV ceilV; rw [if_neg Om, if_neg Om]
  have cc := fun W h => cpScores_any W GA KA gn gc 3 kc kk (hK.below h) Om hk 900
  have HB : Hid (∀ x ∈ mapN (capAt kk 900) 3, -100000 <= x /\ x <= 100000) := mapN_mem fun j hj => by have := capAt_bd (most := 900) (hk j hj) Om; omega
  have HT := Lib.hid (sumN_to (capAt kk 900) 3);have hln := mapN_len (capAt kk 900) 3;have hn1 : ¬ falls = 1 := Om;have hn0 : ¬ falls = 0 := Om;clear hm hk hK;generalize sumN (capAt kk 900) 3 = sv at *;generalize mapN (capAt kk 900) 3 = l at *;go_enter Tryz.func195, Tryz.ntmps195;go_wp2_with (first | (go_at_call 227; ((with_reducible refine (cc _ bL).mono ?_); rintro e w' ⟨A1, n1, c1, x1, rfl, rfl, o1⟩; (obtain rfl : n1 = 3 := o1.len.symm.trans hln))) | (go_at_call 192; (with_reducible refine ep (poSum_any _ _ _ _ _ o1.rd Om HB.out) ?_)))
  go_ret;exact ⟨ret_int (by rw [HV.out, HT.out]), ext_ex bL⟩
theorem factoredSum_any (w : World) (GA KA : OA) (gn gc kn kc : Nat) (gg kk : List (List Int)) (hK : RdM w KA kn kk) (hm : marksB gg kk = true) (falls : Int) (hf : 0 <= falls) (factor : Int) (hfa : 10 <= factor /\ factor <= 400) :
  Calls Tryz.prog 137 #[.agg #[.slice GA gn gc, .slice KA kn kc], .int .i64 factor, .int .i64 falls] w (fun e w' => e = .returned (.int .i64 (facV kk factor falls)) /\ ∃ y, w' = ext w y) := by
 have cs := fun W h => cappedSum_any W GA KA gn gc kn kc gg kk (hK.below h) hm falls hf
 have hmul := cap_mul (falls := falls) hm hfa;have HV : Hid (facV kk factor falls = roundV (capV kk falls * factor) 100) := rfl;clear hK hm;generalize capV kk falls = s at *;have e1 : IntKind.i64.wrap (s * factor) = s * factor := IntWalk.i64_in _ Om;have cr := fun W => roundDiv_any (s * factor) 100 W Om Om Om Om
 go_enter Tryz.func137, Tryz.ntmps137;go_wp2_with (first | (go_at_call 189; ((with_reducible refine (cs _ bL).mono ?_); rintro e w' ⟨rfl, y1, rfl⟩)) | (go_at_call 161; (with_reducible refine ep (cr _) ?_)))
 go_ret;exact ⟨ret_int (by rw [HV.out]), ext_ex bL⟩
theorem cpFactored_any (w : World) (GA KA : OA) (gn gc kn kc : Nat) (gg kk : List (List Int)) (hK : RdM w KA kn kk) (hm : marksB gg kk = true) (falls : Int) (hf : 0 <= falls) (factor : Int) (hfa : 10 <= factor /\ factor <= 400) :
  Calls Tryz.prog 141 #[.agg #[.slice GA gn gc, .slice KA kn kc], .int .i64 factor, .int .i64 falls] w (fun e w' => e = .returned (.int .i64 (facV kk factor falls)) /\ ∃ y, w' = ext w y) := by
 have cs := fun W h => cpSum_any W GA KA gn gc kn kc gg kk (hK.below h) hm falls hf
 have hmul := cap_mul (falls := falls) hm hfa;have HV : Hid (facV kk factor falls = roundV (capV kk falls * factor) 100) := rfl;clear hK hm;generalize capV kk falls = s at *;have e1 : IntKind.i64.wrap (s * factor) = s * factor := IntWalk.i64_in _ Om;have cr := fun W => poRound_any (s * factor) 100 W Om Om Om Om
 go_enter Tryz.func141, Tryz.ntmps141;go_wp2_with (first | (go_at_call 195; ((with_reducible refine (cs _ bL).mono ?_); rintro e w' ⟨rfl, y1, rfl⟩)) | (go_at_call 194; (with_reducible refine ep (cr _) ?_)))
 go_ret;exact ⟨ret_int (by rw [HV.out]), ext_ex bL⟩
theorem fallDeduction_any (fall falls : Int) (w : World) (hfa : 0 <= fall /\ fall <= 500) (hf : 0 <= falls /\ falls <= 9) :
  Calls Tryz.prog 190 #[.int .i64 fall, .int .i64 falls] w fun e w' => e = .returned (.int .i64 (fallV fall falls)) /\ w = w' := by
 have hb := fallV_bd hfa hf;have HV : Hid (fallV fall falls = fall * (falls + max (falls - 2) 0 + max (falls - 4) 0)) := rfl;rw [HV.out] at hb;have e0 : IntKind.i64.wrap (falls - 2) = falls - 2 := IntWalk.i64_in _ Om;have e1 : IntKind.i64.wrap (falls - 4) = falls - 4 := IntWalk.i64_in _ Om;have e2 : IntKind.i64.wrap (falls + max (falls - 2) 0) = falls + max (falls - 2) 0 := IntWalk.i64_in _ Om;have e3 : IntKind.i64.wrap (falls + max (falls - 2) 0 + max (falls - 4) 0) = falls + max (falls - 2) 0 + max (falls - 4) 0 := IntWalk.i64_in _ Om;have e4 : IntKind.i64.wrap (fall * (falls + max (falls - 2) 0 + max (falls - 4) 0)) = fall * (falls + max (falls - 2) 0 + max (falls - 4) 0) := IntWalk.i64_in _ Om;go_enter Tryz.func190, Tryz.ntmps190;go_wp2;go_ret;exact ⟨ret_int (by rw [HV.out]), rfl⟩
theorem dcFalls_any (fall falls : Int) (w : World) (hfa : 0 <= fall /\ fall <= 500) (hf : 0 <= falls /\ falls <= 9) :
  Calls Tryz.prog 196 #[.int .i64 fall, .int .i64 falls] w fun e w' => e = .returned (.int .i64 (fallV fall falls)) /\ w = w' := by
 obtain ⟨n, rfl⟩ : ∃ n : Nat, falls = n := ⟨falls.toNat, Om⟩;have HS := fun k => Lib.hid (sumN_succ (fallAt fall) k)
 have HV := Lib.hid (fall_sum fall n);have HB : ∀ k, k <= n -> -10500 <= sumN (fallAt fall) k /\ sumN (fallAt fall) k <= 10500 := fun k hk => by rw [fall_sum]; exact fallV_bd hfa Om
 have HM : ∀ k : Nat, 0 <= fall * min 3 ((k : Int) / 2 + 1) /\ fall * min 3 ((k : Int) / 2 + 1) <= 1500 := fun k => by
  have := mul_bd (A := 500) (B := 3) (a := fall) (b := min 3 ((k : Int) / 2 + 1)) Om Om Om Om;exact ⟨Int.mul_nonneg hfa.1 Om, Om⟩
 go_enter Tryz.func196, Tryz.ntmps196;go_wp2
 go_loop [5, 6] (fun t i => ∃ k : Nat, k <= n /\ i = .int .i64 k /\ t = .int .i64 (sumN (fallAt fall) k)) (fun _ i => n - (intOf i).toNat)
 case atStart => exact ⟨0, Om, rfl, rfl⟩
 case round =>
  obtain ⟨k, hk, rfl, rfl⟩ := hrel;by_cases hlt : k < n
  ·
   have h1 := HB k hk;have h2 := HM k;have HSk : Hid (sumN (fallAt fall) (k + 1) = sumN (fallAt fall) k + fall * min 3 ((k : Int) / 2 + 1)) := (HS k).out;have hltI : (k : Int) < n := Om;clear HS HV HB HM;generalize sumN (fallAt fall) k = s at *;have e0 : (k : Int).tdiv 2 = (k : Int) / 2 := Int.tdiv_eq_ediv_of_nonneg Om;obtain ⟨q, hq⟩ : ∃ q : Int, (k : Int) / 2 = q := ⟨_, rfl⟩;rw [hq] at e0 h2 HSk;have hq2 : 0 <= q /\ q <= 5 := Om;have e1 : IntKind.i64.wrap q = q := IntWalk.i64_in _ Om;have e2 : IntKind.i64.wrap (q + 1) = q + 1 := IntWalk.i64_in _ Om;have e3 : IntKind.i64.wrap (fall * min 3 (q + 1)) = fall * min 3 (q + 1) := IntWalk.i64_in _ Om;have e4 : IntKind.i64.wrap (s + fall * min 3 (q + 1)) = s + fall * min 3 (q + 1) := IntWalk.i64_in _ Om;have cl := fun W => l1Least_any 3 (q + 1) W
   clear hq;go_wp2_with ((go_at_call 124; (with_reducible refine ep (cl _) ?_)))
   go_round
   case rel => exact ⟨k + 1, Om, by go_num, by rw [HSk.out]⟩
   case measure => simp [intOf]; omega
  ·
   obtain rfl : k = n := Om;go_wp2;go_ret;exact ⟨ret_int (by rw [HV.out]), rfl⟩
theorem timeDeduction_any (s : Int) (w : World) (hs : 0 <= s /\ s <= 60) :
  Calls Tryz.prog 191 #[.int .i64 s] w fun e w' => e = .returned (.int .i64 (timeV s)) /\ w = w' := by
 have HV : Hid (timeV s = (s + 4) / 5 * 100) := rfl;have e1 : (s + 4).tdiv 5 = (s + 4) / 5 := Int.tdiv_eq_ediv_of_nonneg Om;have e2 : IntKind.i64.wrap (s + 4) = s + 4 := IntWalk.i64_in _ Om;have e3 : IntKind.i64.wrap ((s + 4) / 5) = (s + 4) / 5 := IntWalk.i64_in _ Om;have e4 : IntKind.i64.wrap ((s + 4) / 5 * 100) = (s + 4) / 5 * 100 := IntWalk.i64_in _ Om;go_enter Tryz.func191, Tryz.ntmps191;go_wp2;go_ret;exact ⟨ret_int (by rw [HV.out]), rfl⟩
theorem dcTime_any (s : Int) (w : World) (hs : 0 <= s /\ s <= 60) :
  Calls Tryz.prog 197 #[.int .i64 s] w fun e w' => e = .returned (.int .i64 (timeV s)) /\ w = w' := by
 have HV : Hid (timeV s = (s + 4) / 5 * 100) := rfl;have e1 : (s + 4).tdiv 5 = (s + 4) / 5 := Int.tdiv_eq_ediv_of_nonneg Om;have e2 : IntKind.i64.wrap (s + 4) = s + 4 := IntWalk.i64_in _ Om;have e3 : IntKind.i64.wrap ((s + 4) / 5) = (s + 4) / 5 := IntWalk.i64_in _ Om;have e4 : IntKind.i64.wrap ((s + 4) / 5 * 100) = (s + 4) / 5 * 100 := IntWalk.i64_in _ Om;go_enter Tryz.func197, Tryz.ntmps197;go_wp2;go_ret;exact ⟨ret_int (by rw [HV.out]), rfl⟩
theorem slipPoints_any (w : World) (A B : OA) (n m c d : Nat) (q0 q1 q2 q3 s1 s2 s3 : Int) (hq : 0 <= q3 /\ q3 <= 500) (hs : slipB s1 s2 s3 = true) :
  Calls Tryz.prog 139 #[.agg #[.slice A n c, .slice B m d, .int .i64 q0, .int .i64 q1, .int .i64 q2, .int .i64 q3], .agg #[.int .i64 s1, .int .i64 s2, .int .i64 s3]] w (RetI w [fallV q3 s1, timeV s2, s3]) := by
 have hsl := slip_of hs;have b1 := fallV_bd hq hsl.1;have b2 := timeV_bd hsl.2.1;have cf := fun W => fallDeduction_any q3 s1 W hq hsl.1
 have ct := fun W => timeDeduction_any s2 W hsl.2.1
 generalize fallV q3 s1 = fv at *;generalize timeV s2 = tv at *;clear hs hq;have hS := fun W h => kS (R := ((w.alloc (oC A n c B m d q0 q1 q2 q3)).alloc (.cells #[.int .i64 s1, .int .i64 s2, .int .i64 s3] 33))) (W := W) (l := [(⟨w.heap.size, 5, none⟩, .int .i64 q3), (⟨w.heap.size + 1, 0, none⟩, .int .i64 s1), (⟨w.heap.size + 1, 1, none⟩, .int .i64 s2), (⟨w.heap.size + 1, 2, none⟩, .int .i64 s3)]) h
 go_enter Tryz.func139, Tryz.ntmps139;go_wp2
 go_region_held3 (fun w' => w'.cell? ⟨w.heap.size, 5, none⟩ = some (.int .i64 q3) /\ w'.cell? ⟨w.heap.size + 1, 0, none⟩ = some (.int .i64 s1) /\ w'.cell? ⟨w.heap.size + 1, 1, none⟩ = some (.int .i64 s2) /\ w'.cell? ⟨w.heap.size + 1, 2, none⟩ = some (.int .i64 s3)) (exact hS _ bL) (first | (go_at_call 190; (with_reducible refine ep (cf _) ?_)) | (go_at_call 191; (with_reducible refine ep (ct _) ?_)))
 all_goals
  go_wp2;go_ret;exact RetI.allocd_ bL Sg rfl rfl (by simp) rfl
theorem dcSum_any (w : World) (A B : OA) (n m c d : Nat) (q0 q1 q2 q3 s1 s2 s3 : Int) (hq : 0 <= q3 /\ q3 <= 500) (hs : slipB s1 s2 s3 = true) :
  Calls Tryz.prog 142 #[.agg #[.slice A n c, .slice B m d, .int .i64 q0, .int .i64 q1, .int .i64 q2, .int .i64 q3], .agg #[.int .i64 s1, .int .i64 s2, .int .i64 s3]] w (fun e w' => e = .returned (.int .i64 (dedV q3 s1 s2 s3)) /\ ∃ y, w' = ext w y) := by
 have HV : Hid (dedV q3 s1 s2 s3 = fallV q3 s1 + timeV s2 + s3) := rfl;have hsl := slip_of hs;have b1 := fallV_bd hq hsl.1;have b2 := timeV_bd hsl.2.1;have cf := fun W => dcFalls_any q3 s1 W hq hsl.1
 have ct := fun W => dcTime_any s2 W hsl.2.1
 generalize fallV q3 s1 = fv at *;generalize timeV s2 = tv at *;clear hs hq;have hS := fun W h => kS (R := ((w.alloc (oC A n c B m d q0 q1 q2 q3)).alloc (.cells #[.int .i64 s1, .int .i64 s2, .int .i64 s3] 33))) (W := W) (l := [(⟨w.heap.size, 5, none⟩, .int .i64 q3), (⟨w.heap.size + 1, 0, none⟩, .int .i64 s1), (⟨w.heap.size + 1, 1, none⟩, .int .i64 s2), (⟨w.heap.size + 1, 2, none⟩, .int .i64 s3)]) h
 have e1 : IntKind.i64.wrap (fv + tv) = fv + tv := IntWalk.i64_in _ Om;have e2 : IntKind.i64.wrap (fv + tv + s3) = fv + tv + s3 := IntWalk.i64_in _ Om;go_enter Tryz.func142, Tryz.ntmps142;go_wp2
 go_region_held3 (fun w' => w'.cell? ⟨w.heap.size, 5, none⟩ = some (.int .i64 q3) /\ w'.cell? ⟨w.heap.size + 1, 0, none⟩ = some (.int .i64 s1) /\ w'.cell? ⟨w.heap.size + 1, 1, none⟩ = some (.int .i64 s2) /\ w'.cell? ⟨w.heap.size + 1, 2, none⟩ = some (.int .i64 s3)) (exact hS _ bL) (first | (go_at_call 196; (with_reducible refine ep (cf _) ?_)) | (go_at_call 197; (with_reducible refine ep (ct _) ?_)))
 all_goals
  go_wp2;go_ret;exact ⟨ret_int (by rw [HV.out]), ext_ex bL⟩
theorem technicalScore_any (w : World) (A B : OA) (n m c d : Nat) (els : List El) (q0 q1 q2 q3 : Int) (I : OA) (n2 c2 : Nat) (its : List It) (GA KA : OA) (gn gc kn kc : Nat) (gg kk : List (List Int)) (s1 s2 s3 : Int) (hM : PP w A n els I n2 c2 its GA gn gg) (hK : RdM w KA kn kk) (hP : PerfG els q0 q1 q2 q3 its gg kk s1 s2 s3) :
  Calls Tryz.prog 136 #[.agg #[.slice A n c, .slice B m d, .int .i64 q0, .int .i64 q1, .int .i64 q2, .int .i64 q3], .agg #[.slice I n2 c2, .slice GA gn gc, .slice KA kn kc, .int .i64 s1, .int .i64 s2, .int .i64 s3]] w (fun e w' => e = .returned (.int .i64 (techV els q0 q1 q2 its gg)) /\ ∃ y, w' = ext w y) := by
 have hl := hM.2.1.1.len;have hlen := hP.len;rw [hl] at hlen;have cs := fun W h => itemScores_any W A B n m c d els q0 q1 q2 q3 I n2 c2 its GA KA gn gc kn kc gg kk s1 s2 s3 (hM.below h) hP
 have HB : Hid (∀ x ∈ mapN (scAt els q0 q1 q2 its gg) n2, -100000 <= x /\ x <= 100000) := mapN_mem fun j hj => by
  have := scAt_bd (its := its) (k := j) hP.code (hP.itg j Om) (hP.grs j (by rw [hP.glen]; omega));omega
 have HT : Hid (sumTo (mapN (scAt els q0 q1 q2 its gg) n2) n2 = techV els q0 q1 q2 its gg) := by unfold Hid techV; rw [hl]; exact sumN_to _ _
 have hln := mapN_len (scAt els q0 q1 q2 its gg) n2;clear hM hK hP hl;generalize techV els q0 q1 q2 its gg = tv at *;generalize mapN (scAt els q0 q1 q2 its gg) n2 = l at *;go_enter Tryz.func136, Tryz.ntmps136;go_wp2_with (first | (go_at_call 188; ((with_reducible refine (cs _ bL).mono ?_); rintro e w' ⟨A1, n1, c1, x1, rfl, rfl, o1⟩; (obtain rfl : n1 = n2 := o1.len.symm.trans hln))) | (go_at_call 138; (with_reducible refine ep (sumInts_any _ _ _ _ _ o1.rd Om HB.out) ?_)))
 go_ret;exact ⟨ret_int (by rw [HT.out]), ext_ex bL⟩
theorem sgTechnical_any (w : World) (A B : OA) (n m c d : Nat) (els : List El) (q0 q1 q2 q3 : Int) (I : OA) (n2 c2 : Nat) (its : List It) (GA KA : OA) (gn gc kn kc : Nat) (gg kk : List (List Int)) (s1 s2 s3 : Int) (hM : PP w A n els I n2 c2 its GA gn gg) (hK : RdM w KA kn kk) (hP : PerfG els q0 q1 q2 q3 its gg kk s1 s2 s3) :
  Calls Tryz.prog 140 #[.agg #[.slice A n c, .slice B m d, .int .i64 q0, .int .i64 q1, .int .i64 q2, .int .i64 q3], .agg #[.slice I n2 c2, .slice GA gn gc, .slice KA kn kc, .int .i64 s1, .int .i64 s2, .int .i64 s3]] w (fun e w' => e = .returned (.int .i64 (techV els q0 q1 q2 its gg)) /\ ∃ y, w' = ext w y) := by
 have hl := hM.2.1.1.len;have hlen := hP.len;rw [hl] at hlen;have cs := fun W h => elScores_any W A B n m c d els q0 q1 q2 q3 I n2 c2 its GA KA gn gc kn kc gg kk s1 s2 s3 (hM.below h) hP
 have HB : Hid (∀ x ∈ mapN (scAt els q0 q1 q2 its gg) n2, -100000 <= x /\ x <= 100000) := mapN_mem fun j hj => by
  have := scAt_bd (its := its) (k := j) hP.code (hP.itg j Om) (hP.grs j (by rw [hP.glen]; omega));omega
 have HT : Hid (sumTo (mapN (scAt els q0 q1 q2 its gg) n2) n2 = techV els q0 q1 q2 its gg) := by unfold Hid techV; rw [hl]; exact sumN_to _ _
 have hln := mapN_len (scAt els q0 q1 q2 its gg) n2;clear hM hK hP hl;generalize techV els q0 q1 q2 its gg = tv at *;generalize mapN (scAt els q0 q1 q2 its gg) n2 = l at *;go_enter Tryz.func140, Tryz.ntmps140;go_wp2_with (first | (go_at_call 193; ((with_reducible refine (cs _ bL).mono ?_); rintro e w' ⟨A1, n1, c1, x1, rfl, rfl, o1⟩; (obtain rfl : n1 = n2 := o1.len.symm.trans hln))) | (go_at_call 192; (with_reducible refine ep (poSum_any _ _ _ _ _ o1.rd Om HB.out) ?_)))
 go_ret;exact ⟨ret_int (by rw [HT.out]), ext_ex bL⟩
theorem partsOf_any (w : World) (A B : OA) (n m c d : Nat) (els : List El) (q0 q1 q2 q3 : Int) (I : OA) (n2 c2 : Nat) (its : List It) (GA KA : OA) (gn gc kn kc : Nat) (gg kk : List (List Int)) (s1 s2 s3 : Int) (hM : PP w A n els I n2 c2 its GA gn gg) (hK : RdM w KA kn kk) (hP : PerfG els q0 q1 q2 q3 its gg kk s1 s2 s3) (factor : Int) (hfa : 10 <= factor /\ factor <= 400) :
  Calls Tryz.prog 94 #[.agg #[.slice A n c, .slice B m d, .int .i64 q0, .int .i64 q1, .int .i64 q2, .int .i64 q3], .agg #[.slice I n2 c2, .slice GA gn gc, .slice KA kn kc, .int .i64 s1, .int .i64 s2, .int .i64 s3], .int .i64 factor] w (RetI w (partsP els q0 q1 q2 q3 its gg kk s1 s2 s3 factor)) := by
 have hsl := slip_of hP.slip;have ct := fun W h => technicalScore_any W A B n m c d els q0 q1 q2 q3 I n2 c2 its GA KA gn gc kn kc gg kk s1 s2 s3 (hM.below h) (hK.below h) hP
 have cf := fun W h => factoredSum_any W GA KA gn gc kn kc gg kk (hK.below h) hP.mks s1 hsl.1.1 factor hfa
 have b1 := techV_bd hP.code hP.itg hP.grs hP.glen hP.len;have b2 := facV_bd (falls := s1) hP.mks hfa;have b3 := dedV_bd hP.fall hP.slip;have cs := fun W => slipPoints_any W A B n m c d q0 q1 q2 q3 s1 s2 s3 hP.fall hP.slip
 have HB : Hid (∀ x ∈ [fallV q3 s1, timeV s2, s3], -100000 <= x /\ x <= 100000) := by
  have h1 := fallV_bd hP.fall hsl.1;have h2 := timeV_bd hsl.2.1;intro x hx;simp at hx;omega
 have HT : Hid (sumTo [fallV q3 s1, timeV s2, s3] 3 = dedV q3 s1 s2 s3) := by unfold Hid dedV; simp [sumTo, Int.add_assoc]
 have hln : [fallV q3 s1, timeV s2, s3].length = 3 := rfl;generalize [fallV q3 s1, timeV s2, s3] = l at *;have cu := fun W A1 c1 (h : RdI W A1 3 l) => sumInts_any W A1 3 c1 l h Om HB.out
 simp only [HT.out] at cu;have HV : Hid (partsP els q0 q1 q2 q3 its gg kk s1 s2 s3 factor = [techV els q0 q1 q2 its gg, facV kk factor s1, dedV q3 s1 s2 s3, max (techV els q0 q1 q2 its gg + facV kk factor s1 - dedV q3 s1 s2 s3) 0]) := rfl;clear hM hK hP hsl hfa;generalize techV els q0 q1 q2 its gg = tv at *;generalize facV kk factor s1 = fv at *;generalize dedV q3 s1 s2 s3 = dv at *;have e1 : IntKind.i64.wrap (tv + fv) = tv + fv := IntWalk.i64_in _ Om;have e2 : IntKind.i64.wrap (tv + fv - dv) = tv + fv - dv := IntWalk.i64_in _ Om

 have hS := fun W h => kS (R := ((w.alloc (oC A n c B m d q0 q1 q2 q3)).alloc (oP I n2 c2 GA gn gc KA kn kc s1 s2 s3))) (W := W) (l := [(⟨w.heap.size, 0, none⟩, .slice A n c), (⟨w.heap.size, 1, none⟩, .slice B m d), (⟨w.heap.size, 2, none⟩, .int .i64 q0), (⟨w.heap.size, 3, none⟩, .int .i64 q1), (⟨w.heap.size, 4, none⟩, .int .i64 q2), (⟨w.heap.size, 5, none⟩, .int .i64 q3), (⟨w.heap.size + 1, 0, none⟩, .slice I n2 c2), (⟨w.heap.size + 1, 1, none⟩, .slice GA gn gc), (⟨w.heap.size + 1, 2, none⟩, .slice KA kn kc), (⟨w.heap.size + 1, 3, none⟩, .int .i64 s1), (⟨w.heap.size + 1, 4, none⟩, .int .i64 s2), (⟨w.heap.size + 1, 5, none⟩, .int .i64 s3)]) h
 go_enter Tryz.func94, Tryz.ntmps94;go_wp2
 go_region_held3 (fun w' => w'.cell? ⟨w.heap.size, 0, none⟩ = some (.slice A n c) /\ w'.cell? ⟨w.heap.size, 1, none⟩ = some (.slice B m d) /\ w'.cell? ⟨w.heap.size, 2, none⟩ = some (.int .i64 q0) /\ w'.cell? ⟨w.heap.size, 3, none⟩ = some (.int .i64 q1) /\ w'.cell? ⟨w.heap.size, 4, none⟩ = some (.int .i64 q2) /\ w'.cell? ⟨w.heap.size, 5, none⟩ = some (.int .i64 q3) /\ w'.cell? ⟨w.heap.size + 1, 0, none⟩ = some (.slice I n2 c2) /\ w'.cell? ⟨w.heap.size + 1, 1, none⟩ = some (.slice GA gn gc) /\ w'.cell? ⟨w.heap.size + 1, 2, none⟩ = some (.slice KA kn kc) /\ w'.cell? ⟨w.heap.size + 1, 3, none⟩ = some (.int .i64 s1) /\ w'.cell? ⟨w.heap.size + 1, 4, none⟩ = some (.int .i64 s2) /\ w'.cell? ⟨w.heap.size + 1, 5, none⟩ = some (.int .i64 s3)) (exact hS _ bL) (first | (go_at_call 136; ((with_reducible refine (ct _ bL).mono ?_); rintro e w' ⟨rfl, y1, rfl⟩)) | (go_at_call 137; ((with_reducible refine (cf _ bL).mono ?_); rintro e w' ⟨rfl, y2, rfl⟩)) | (go_at_call 139; ((with_reducible refine (cs _).mono ?_); rintro e w' ⟨A1, n1, c1, x1, rfl, rfl, o1⟩; (obtain rfl : n1 = 3 := o1.len.symm.trans hln))) | (go_at_call 138; (with_reducible refine ep (cu _ _ _ (o1.rd.below bL)) ?_)))
 all_goals
  go_wp2_with (fail)
  go_ret;rw [HV.out];exact RetI.alloc_ bL Sg rfl rfl (by simp) rfl
theorem sgParts_any (w : World) (A B : OA) (n m c d : Nat) (els : List El) (q0 q1 q2 q3 : Int) (I : OA) (n2 c2 : Nat) (its : List It) (GA KA : OA) (gn gc kn kc : Nat) (gg kk : List (List Int)) (s1 s2 s3 : Int) (hM : PP w A n els I n2 c2 its GA gn gg) (hK : RdM w KA kn kk) (hP : PerfG els q0 q1 q2 q3 its gg kk s1 s2 s3) (factor : Int) (hfa : 10 <= factor /\ factor <= 400) :
  Calls Tryz.prog 95 #[.agg #[.slice A n c, .slice B m d, .int .i64 q0, .int .i64 q1, .int .i64 q2, .int .i64 q3], .agg #[.slice I n2 c2, .slice GA gn gc, .slice KA kn kc, .int .i64 s1, .int .i64 s2, .int .i64 s3], .int .i64 factor] w (RetI w (partsP els q0 q1 q2 q3 its gg kk s1 s2 s3 factor)) := by
 have hsl := slip_of hP.slip;have ct := fun W h => sgTechnical_any W A B n m c d els q0 q1 q2 q3 I n2 c2 its GA KA gn gc kn kc gg kk s1 s2 s3 (hM.below h) (hK.below h) hP
 have cf := fun W h => cpFactored_any W GA KA gn gc kn kc gg kk (hK.below h) hP.mks s1 hsl.1.1 factor hfa
 have b1 := techV_bd hP.code hP.itg hP.grs hP.glen hP.len;have b2 := facV_bd (falls := s1) hP.mks hfa;have b3 := dedV_bd hP.fall hP.slip;have cs := fun W => dcSum_any W A B n m c d q0 q1 q2 q3 s1 s2 s3 hP.fall hP.slip
 have HV : Hid (partsP els q0 q1 q2 q3 its gg kk s1 s2 s3 factor = [techV els q0 q1 q2 its gg, facV kk factor s1, dedV q3 s1 s2 s3, max (techV els q0 q1 q2 its gg + facV kk factor s1 - dedV q3 s1 s2 s3) 0]) := rfl;clear hM hK hP hsl hfa;generalize techV els q0 q1 q2 its gg = tv at *;generalize facV kk factor s1 = fv at *;generalize dedV q3 s1 s2 s3 = dv at *;have e1 : IntKind.i64.wrap (tv + fv) = tv + fv := IntWalk.i64_in _ Om;have e2 : IntKind.i64.wrap (tv + fv - dv) = tv + fv - dv := IntWalk.i64_in _ Om;have cu := fun W => l1MostU_any 0 (tv + fv - dv) W
 rw [show max 0 (tv + fv - dv) = max (tv + fv - dv) 0 by omega] at cu;have hS := fun W h => kS (R := ((w.alloc (oC A n c B m d q0 q1 q2 q3)).alloc (oP I n2 c2 GA gn gc KA kn kc s1 s2 s3))) (W := W) (l := [(⟨w.heap.size, 0, none⟩, .slice A n c), (⟨w.heap.size, 1, none⟩, .slice B m d), (⟨w.heap.size, 2, none⟩, .int .i64 q0), (⟨w.heap.size, 3, none⟩, .int .i64 q1), (⟨w.heap.size, 4, none⟩, .int .i64 q2), (⟨w.heap.size, 5, none⟩, .int .i64 q3), (⟨w.heap.size + 1, 0, none⟩, .slice I n2 c2), (⟨w.heap.size + 1, 1, none⟩, .slice GA gn gc), (⟨w.heap.size + 1, 2, none⟩, .slice KA kn kc), (⟨w.heap.size + 1, 3, none⟩, .int .i64 s1), (⟨w.heap.size + 1, 4, none⟩, .int .i64 s2), (⟨w.heap.size + 1, 5, none⟩, .int .i64 s3)]) h
 go_enter Tryz.func95, Tryz.ntmps95;go_wp2
 go_region_held3 (fun w' => w'.cell? ⟨w.heap.size, 0, none⟩ = some (.slice A n c) /\ w'.cell? ⟨w.heap.size, 1, none⟩ = some (.slice B m d) /\ w'.cell? ⟨w.heap.size, 2, none⟩ = some (.int .i64 q0) /\ w'.cell? ⟨w.heap.size, 3, none⟩ = some (.int .i64 q1) /\ w'.cell? ⟨w.heap.size, 4, none⟩ = some (.int .i64 q2) /\ w'.cell? ⟨w.heap.size, 5, none⟩ = some (.int .i64 q3) /\ w'.cell? ⟨w.heap.size + 1, 0, none⟩ = some (.slice I n2 c2) /\ w'.cell? ⟨w.heap.size + 1, 1, none⟩ = some (.slice GA gn gc) /\ w'.cell? ⟨w.heap.size + 1, 2, none⟩ = some (.slice KA kn kc) /\ w'.cell? ⟨w.heap.size + 1, 3, none⟩ = some (.int .i64 s1) /\ w'.cell? ⟨w.heap.size + 1, 4, none⟩ = some (.int .i64 s2) /\ w'.cell? ⟨w.heap.size + 1, 5, none⟩ = some (.int .i64 s3)) (exact hS _ bL) (first | (go_at_call 140; ((with_reducible refine (ct _ bL).mono ?_); rintro e w' ⟨rfl, y1, rfl⟩)) | (go_at_call 141; ((with_reducible refine (cf _ bL).mono ?_); rintro e w' ⟨rfl, y2, rfl⟩)) | (go_at_call 142; ((with_reducible refine (cs _).mono ?_); rintro e w' ⟨rfl, y3, rfl⟩)))
 all_goals
  go_wp2_with ((go_at_call 143; (with_reducible refine ep (cu _) ?_)))
  go_ret;rw [HV.out];exact RetI.alloc_ bL Sg rfl rfl (by simp) rfl
def totP : ByteArray := ⟨#[116, 111, 116, 97, 108, 115]⟩
def totTo (l : List Int) : Nat -> ByteArray
 | 0 => totP
 | k + 1 => totTo l k ++ (⟨#[32]⟩ ++ poS (l[k]?.getD 0))
def totS (els : List El) (q0 q1 q2 q3 : Int) (its : List It) (gg kk : List (List Int)) (s1 s2 s3 factor : Int) : ByteArray := totTo (partsP els q0 q1 q2 q3 its gg kk s1 s2 s3 factor) 4
theorem totTo_join (l : List Int) (k : Nat) : totTo l (k + 1) = totP ++ ⟨#[32]⟩ ++ joinTo ⟨#[32]⟩ (ptF l) (k + 1) := by
 induction k with
 | zero => simp [totTo, joinTo, ptF, ByteArray.append_assoc]
 | succ k ih =>
  rw [totTo, ih, joinTo.eq_2 ⟨#[32]⟩ (ptF l) (k + 1), if_pos Om];simp only [ByteArray.append_assoc, ptF]
theorem parts_bd {els : List El} (hP : PerfG els q0 q1 q2 q3 its gg kk s1 s2 s3) (hfa : 10 <= factor /\ factor <= 400) : ∀ x ∈ partsP els q0 q1 q2 q3 its gg kk s1 s2 s3 factor, -1000000000 <= x /\ x <= 1000000000 := by
 have b1 := techV_bd hP.code hP.itg hP.grs hP.glen hP.len;have b2 := facV_bd (falls := s1) hP.mks hfa;have b3 := dedV_bd hP.fall hP.slip;intro x hx;simp [partsP, partsV] at hx;omega
theorem totTo_size (h : ∀ x ∈ l, -1000000000 <= x /\ x <= 1000000000) (k : Nat) (hk : k <= l.length) : (totTo l k).size <= 6 + 14 * k := by
 induction k with
 | zero => simp [totTo, totP, ByteArray.size]
 | succ k ih =>
  have h1 := ih Om;have := h _ (getD_mem 0 l k Om);have h2 := poS_size this.1 this.2;have z : ByteArray.size ⟨#[32]⟩ = 1 := rfl;rw [totTo];simp only [ByteArray.size_append];omega
theorem totalsLine_any (w : World) (A B : OA) (n m c d : Nat) (els : List El) (q0 q1 q2 q3 : Int) (I : OA) (n2 c2 : Nat) (its : List It) (GA KA : OA) (gn gc kn kc : Nat) (gg kk : List (List Int)) (s1 s2 s3 : Int) (hM : PP w A n els I n2 c2 its GA gn gg) (hK : RdM w KA kn kk) (hP : PerfG els q0 q1 q2 q3 its gg kk s1 s2 s3) (factor : Int) (hfa : 10 <= factor /\ factor <= 400) (hTab : Tab w) :
  Calls Tryz.prog 68 #[.agg #[.slice A n c, .slice B m d, .int .i64 q0, .int .i64 q1, .int .i64 q2, .int .i64 q3], .agg #[.slice I n2 c2, .slice GA gn gc, .slice KA kn kc, .int .i64 s1, .int .i64 s2, .int .i64 s3], .int .i64 factor] w (fun e w' => e = .returned (.string (totS els q0 q1 q2 q3 its gg kk s1 s2 s3 factor)) /\ ∃ y, w' = ext w y) := by
 have cp := fun W h => partsOf_any W A B n m c d els q0 q1 q2 q3 I n2 c2 its GA KA gn gc kn kc gg kk s1 s2 s3 (hM.below h) (hK.below h) hP factor hfa
 have HB := Lib.hid (parts_bd (factor := factor) hP hfa);have hln : (partsP els q0 q1 q2 q3 its gg kk s1 s2 s3 factor).length = 4 := rfl;have hz := ptsS_size HB.out 4 (by rw [hln]; omega);have HV : Hid (totS els q0 q1 q2 q3 its gg kk s1 s2 s3 factor = totP ++ ⟨#[32]⟩ ++ ptsS (partsP els q0 q1 q2 q3 its gg kk s1 s2 s3 factor)) := by unfold Hid totS; rw [totTo_join, ptsS, hln]
 have hz : (ptsS (partsP els q0 q1 q2 q3 its gg kk s1 s2 s3 factor)).size <= 56 := hz;clear hM hK hP;generalize partsP els q0 q1 q2 q3 its gg kk s1 s2 s3 factor = l at *;have f0 : Fit ((⟨#[116, 111, 116, 97, 108, 115, 32]⟩ : BA) ++ ptsS l) := by unfold Fit; simp only [ByteArray.size_append]; have : ByteArray.size (⟨#[116, 111, 116, 97, 108, 115, 32]⟩ : BA) = 7 := rfl; omega
 have hcat : totP ++ ⟨#[32]⟩ = (⟨#[116, 111, 116, 97, 108, 115, 32]⟩ : BA) := rfl;rw [hcat] at HV;clear hcat hz;have ct := fun W A1 c1 (h1 : RdI W A1 4 l) (h : Below w.heap.size w W) => pointsWords_any W A1 4 c1 l h1 Om Om HB.out (hTab.below h)
 go_enter Tryz.func68, Tryz.ntmps68;go_wp2_with (first | (go_at_call 94; ((with_reducible refine (cp _ bL).mono ?_); rintro e w' ⟨A1, n1, c1, x1, rfl, rfl, o1⟩; (obtain rfl : n1 = 4 := o1.len.symm.trans hln))) | (go_at_call 113; ((with_reducible refine ex (ct _ _ _ o1.rd bL) ?_); intro y2)))
 go_ret;exact ⟨ret_str (by rw [HV.out]), ext_ex bL⟩
theorem ptTotals_any (w : World) (A B : OA) (n m c d : Nat) (els : List El) (q0 q1 q2 q3 : Int) (I : OA) (n2 c2 : Nat) (its : List It) (GA KA : OA) (gn gc kn kc : Nat) (gg kk : List (List Int)) (s1 s2 s3 : Int) (hM : PP w A n els I n2 c2 its GA gn gg) (hK : RdM w KA kn kk) (hP : PerfG els q0 q1 q2 q3 its gg kk s1 s2 s3) (factor : Int) (hfa : 10 <= factor /\ factor <= 400) :
  Calls Tryz.prog 69 #[.agg #[.slice A n c, .slice B m d, .int .i64 q0, .int .i64 q1, .int .i64 q2, .int .i64 q3], .agg #[.slice I n2 c2, .slice GA gn gc, .slice KA kn kc, .int .i64 s1, .int .i64 s2, .int .i64 s3], .int .i64 factor] w (fun e w' => e = .returned (.string (totS els q0 q1 q2 q3 its gg kk s1 s2 s3 factor)) /\ ∃ y, w' = ext w y) := by
 have cp := fun W h => sgParts_any W A B n m c d els q0 q1 q2 q3 I n2 c2 its GA KA gn gc kn kc gg kk s1 s2 s3 (hM.below h) (hK.below h) hP factor hfa
 have HB := Lib.hid (parts_bd (factor := factor) hP hfa);have hln : (partsP els q0 q1 q2 q3 its gg kk s1 s2 s3 factor).length = 4 := rfl;have HV : Hid (totS els q0 q1 q2 q3 its gg kk s1 s2 s3 factor = totTo (partsP els q0 q1 q2 q3 its gg kk s1 s2 s3 factor) 4) := rfl;clear hM hK hP;generalize partsP els q0 q1 q2 q3 its gg kk s1 s2 s3 factor = l at *;have HZ := fun k hk => totTo_size HB.out k (by rw [hln]; exact hk)
 have HS : ∀ k, Hid (totTo l (k + 1) = totTo l k ++ (⟨#[32]⟩ ++ poS (l[k]?.getD 0))) := fun k => rfl
 have HX : ∀ k, k < 4 -> -1000000000 <= l[k]?.getD 0 /\ l[k]?.getD 0 <= 1000000000 := fun k hk => HB.out _ (getD_mem 0 l k Om)
 go_enter Tryz.func69, Tryz.ntmps69;go_wp2_with ((go_at_call 95; ((with_reducible refine (cp _ bL).mono ?_); rintro e w' ⟨A1, n1, c1, x1, rfl, rfl, o1⟩; (obtain rfl : n1 = 4 := o1.len.symm.trans hln))))
 obtain ⟨g, rfl, hg1, hg2⟩ := o1.form_ Om;have hce := fun k (hk3 : k < 4) => o1.cell_ k hk3
 clear o1 cp HB;obtain ⟨w1, hw1⟩ : ∃ w1, w1 = ext ((w.alloc (oC A n c B m d q0 q1 q2 q3)).alloc (oP I n2 c2 GA gn gc KA kn kc s1 s2 s3)) x1 := ⟨_, rfl⟩;have hbw : Below w.heap.size w w1 := by rw [hw1]; repeat first | exact .refl _ _ | assumption | refine bExt ?_ _ | refine bAlloc ?_ _ | refine bDrewN ?_ _ | refine bDrew ?_ | refine bSet ?_ (by first | exact Nat.le_refl _ | omega | (simp <;> omega)) _
 rw [<- hw1] at hce hg2 ⊢;clear hw1
 go_loopw [7, 9, 15] (fun t _ i wr => ∃ (k : Nat) (y : World), k <= 4 /\ i = .int .i64 k /\ t = .string (totTo l k) /\ wr = ext w1 y) (fun _ _ i _ => 4 - (intOf i).toNat)
 case atStart => exact ⟨0, _, Om, rfl, rfl, ext_self _⟩
 case round =>
  obtain ⟨k, y, hk, rfl, rfl, rfl⟩ := hrel;by_cases hlt : k < 4
  ·
   have hck := hce k hlt;have hv := HX k hlt;have hz := HZ k hk;have hpz := poS_size hv.1 hv.2;have HSk := HS k;clear hce HX HZ HS;generalize l[k]?.getD 0 = v at *;generalize totTo l k = s at *;have f0 : Fit ((⟨#[32]⟩ : BA) ++ poS v) := by unfold Fit; simp only [ByteArray.size_append]; have : ByteArray.size (⟨#[32]⟩ : BA) = 1 := rfl; omega
   have f1 : Fit (s ++ ((⟨#[32]⟩ : BA) ++ poS v)) := by unfold Fit; simp only [ByteArray.size_append]; have : ByteArray.size (⟨#[32]⟩ : BA) = 1 := rfl; omega
   have cp := fun W => poText_any v W hv.1 hv.2
   clear hz hpz;go_wp2_with ((go_at_call 119; ((with_reducible refine (cp _).mono ?_); rintro e w' ⟨rfl, x, rfl⟩)))
   go_roundw
   case rel => exact ⟨k + 1, _, Om, by go_num, by rw [HSk.out], (ext_ex bL).choose_spec⟩
   case measure => simp [intOf]; omega
  ·
   obtain rfl : k = 4 := Om;go_wp2;go_ret;exact ⟨ret_str (by rw [HV.out]), ext_ex bL⟩
def hdrS (sk fa : Int) : ByteArray := (⟨#[112, 114, 111, 116, 111, 99, 111, 108, 32]⟩ : BA) ++ numS sk ++ (⟨#[32]⟩ : BA) ++ numS fa ++ (⟨#[10]⟩ : BA)
def linesA (s : BA) (f : Nat -> ByteArray) : Nat -> ByteArray
 | 0 => s
 | k + 1 => linesA s f k ++ (f k ++ ⟨#[10]⟩)
theorem linesA_size {s : BA} {f : Nat -> ByteArray} : ∀ k, (∀ j, j < k -> (f j).size <= 80) -> (linesA s f k).size <= s.size + 81 * k
 | 0, _ => by simp [linesA]
 | k + 1, h => by
  have ih := linesA_size (s := s) k (fun j hj => h j Om);have h2 := h k Om;rw [linesA, ByteArray.size_append, ByteArray.size_append];have : ByteArray.size ⟨#[10]⟩ = 1 := rfl;omega
def textV (els : List El) (q0 q1 q2 q3 : Int) (its : List It) (gg kk : List (List Int)) (s1 s2 s3 sk fa : Int) : ByteArray :=
 linesA (hdrS sk fa) (lineS els q0 q1 q2 its gg) its.length ++ marksS gg kk ++ (⟨#[115, 108, 105, 112, 115, 32]⟩ : BA) ++ slipS s1 s2 s3 ++ (⟨#[10]⟩ : BA) ++ totS els q0 q1 q2 q3 its gg kk s1 s2 s3 fa ++ (⟨#[10]⟩ : BA)
theorem lineS_size {els : List El} (hP : PerfG els q0 q1 q2 q3 its gg kk s1 s2 s3) (k : Nat) (hk : k < its.length) : ((lineS els q0 q1 q2 its gg) k).size <= 80 := by
 have hIk := hP.itg k hk;have hgr := hP.grs k (by rw [hP.glen]; exact hk);have hT := hP.txt k hk;have hb1 := base_bd (its := its) (k := k) hP.code hIk;have hb2 := pts_bd (its := its) (k := k) hP.code hIk hgr;have hlen := hP.len;exact lineA_size Om Om Om Om Om (itemS_size hT hIk.1.2)
theorem hdrS_size {sk fa : Int} (hsk : 1 <= sk /\ sk <= 999) (hfa : 10 <= fa /\ fa <= 400) : (hdrS sk fa).size <= 21 := by
 have z1 := numS_size 4 sk Om Om;have z2 := numS_size 4 fa Om Om;have zp : ByteArray.size (⟨#[112, 114, 111, 116, 111, 99, 111, 108, 32]⟩ : BA) = 9 := rfl;have zl : ByteArray.size (⟨#[115, 108, 105, 112, 115, 32]⟩ : BA) = 6 := rfl;have zs : ByteArray.size (⟨#[32]⟩ : BA) = 1 := rfl;have ze : ByteArray.size (⟨#[10]⟩ : BA) = 1 := rfl;unfold hdrS;simp only [ByteArray.size_append];omega
theorem hdrS_nums {sk fa : Int} (hsk : 1 <= sk /\ sk <= 999) (hfa : 10 <= fa /\ fa <= 400) : hdrS sk fa = (⟨#[112, 114, 111, 116, 111, 99, 111, 108, 32]⟩ : BA) ++ numsS [sk, fa] ++ (⟨#[10]⟩ : BA) := by
 rw [numsS_two, intS_pos Om, intS_pos Om, hdrS];simp only [ByteArray.append_assoc]
theorem RdI.two_ {b : Nat} {x y : Int} (hb : b < w.heap.size) (h0 : w.cell? ⟨b, 0, none⟩ = some (.int .i64 x)) (h1 : w.cell? ⟨b, 1, none⟩ = some (.int .i64 y)) : RdI w (some ⟨b, 0, none⟩) 2 [x, y] :=
 ⟨by simp, fun _ => ⟨b, 0, rfl, hb, fun j u hu => by
  match j with
  | 0 => simp at hu; subst hu; exact h0
  | 1 => simp at hu; subst hu; exact h1
  | j + 2 => simp at hu⟩⟩
theorem slip_rows (h : slipB a b c = true) : RowG [a, b, c] := by
 have := slip_of h;exact row_three Om Om Om
theorem ptText_any (w : World) (A B : OA) (n m c d : Nat) (els : List El) (q0 q1 q2 q3 : Int) (I : OA) (n2 c2 : Nat) (its : List It) (GA KA : OA) (gn gc kn kc : Nat) (gg kk : List (List Int)) (s1 s2 s3 : Int) (hM : PP w A n els I n2 c2 its GA gn gg) (hm : RdMk w GA gn KA kn gg kk) (hP : PerfG els q0 q1 q2 q3 its gg kk s1 s2 s3) (sk fa : Int) (hsk : 1 <= sk /\ sk <= 999) (hfa : 10 <= fa /\ fa <= 400) :
  Calls Tryz.prog 43 #[.agg #[.slice A n c, .slice B m d, .int .i64 q0, .int .i64 q1, .int .i64 q2, .int .i64 q3], .agg #[.slice I n2 c2, .slice GA gn gc, .slice KA kn kc, .int .i64 s1, .int .i64 s2, .int .i64 s3], .int .i64 sk, .int .i64 fa] w (fun e w' => e = .returned (.string (textV els q0 q1 q2 q3 its gg kk s1 s2 s3 sk fa)) /\ ∃ y, w' = ext w y) := by
 have cl := fun W k (hk : k < n2) (h : Below w.heap.size w W) => ptItem_any W A B n m c d els q0 q1 q2 q3 I n2 c2 its GA KA gn gc kn kc gg kk s1 s2 s3 (hM.below h) hP k hk
 have ct := fun W h => ptTotals_any W A B n m c d els q0 q1 q2 q3 I n2 c2 its GA KA gn gc kn kc gg kk s1 s2 s3 (hM.below h) (hm.2.1.below h) hP fa hfa
 have hsl := slip_of hP.slip;have hrw := slip_rows hP.slip;obtain ⟨hgr, hkr⟩ := marks_rows hP.mks;have hlen := hP.len;have hmo := marksB_of hP.mks;have Hl := Lib.hid hM.2.1.1.len;have zm := marksS_size hgr hkr;have zsl := numsS_size hrw;have zt := totTo_size (parts_bd (factor := fa) hP hfa) 4 (Nat.le_refl 4);have zh := hdrS_size hsk hfa;have zln := fun k (hk : k <= n2) => linesA_size (s := hdrS sk fa) (f := (lineS els q0 q1 q2 its gg)) k (fun j hj => lineS_size hP j (by rw [Hl.out]; omega))
 rw [Hl.out] at hlen;have zp : ByteArray.size (⟨#[112, 114, 111, 116, 111, 99, 111, 108, 32]⟩ : BA) = 9 := rfl;have zl : ByteArray.size (⟨#[115, 108, 105, 112, 115, 32]⟩ : BA) = 6 := rfl;have zs : ByteArray.size (⟨#[32]⟩ : BA) = 1 := rfl;have ze : ByteArray.size (⟨#[10]⟩ : BA) = 1 := rfl;have zm2 : (marksS gg kk).size <= 1200 := Om;have HV : Hid (textV els q0 q1 q2 q3 its gg kk s1 s2 s3 sk fa = linesA (hdrS sk fa) (lineS els q0 q1 q2 its gg) n2 ++ marksS gg kk ++ (⟨#[115, 108, 105, 112, 115, 32]⟩ : BA) ++ slipS s1 s2 s3 ++ (⟨#[10]⟩ : BA) ++ totS els q0 q1 q2 q3 its gg kk s1 s2 s3 fa ++ (⟨#[10]⟩ : BA)) := by unfold Hid textV; rw [Hl.out]
 have zsl2 : (slipS s1 s2 s3).size <= 63 := zsl;have zt2 : (totS els q0 q1 q2 q3 its gg kk s1 s2 s3 fa).size <= 62 := zt;have cm := fun W h => mkText_any W GA KA gn gc kn kc gg kk (hm.1.below h) (hm.2.1.below h) hgr hkr (by have := hm.1.len; omega) (by have := hm.2.1.len; omega)
 have cd := fun W => dcText_any s1 s2 s3 W Om Om Om
 have cu1 := fun W => l1Num_fuel 4 sk W Om Om Om Om
 have cu2 := fun W => l1Num_fuel 4 fa W Om Om Om Om
 have z1 := numS_size 4 sk Om Om;have z2 := numS_size 4 fa Om Om;have hzl := fun k (hk : k < n2) => lineS_size hP k (by rw [Hl.out]; exact hk)
 have HH : Hid (hdrS sk fa = (⟨#[112, 114, 111, 116, 111, 99, 111, 108, 32]⟩ : BA) ++ numS sk ++ (⟨#[32]⟩ : BA) ++ numS fa ++ (⟨#[10]⟩ : BA)) := rfl;have f1 : Fit ((⟨#[112, 114, 111, 116, 111, 99, 111, 108, 32]⟩ : BA) ++ numS sk) := ft;have f2 : Fit ((⟨#[112, 114, 111, 116, 111, 99, 111, 108, 32]⟩ : BA) ++ numS sk ++ (⟨#[32]⟩ : BA)) := ft;have f3 : Fit ((⟨#[112, 114, 111, 116, 111, 99, 111, 108, 32]⟩ : BA) ++ numS sk ++ (⟨#[32]⟩ : BA) ++ numS fa) := ft;have f4 : Fit ((⟨#[112, 114, 111, 116, 111, 99, 111, 108, 32]⟩ : BA) ++ numS sk ++ (⟨#[32]⟩ : BA) ++ numS fa ++ (⟨#[10]⟩ : BA)) := ft;clear hM hm hP hsl hrw hgr hkr hmo zm zsl zt z1 z2 zp;go_enter Tryz.func43, Tryz.ntmps43;go_wp2_with (first | (go_at_call 81; ((with_reducible refine ex (cu1 _) ?_); intro x1)) | (go_at_call 81; ((with_reducible refine ex (cu2 _) ?_); intro x2)))
 go_loopw [9, 10, 22] (fun t _ i wr => ∃ (k : Nat) (y : World), k <= n2 /\ i = .int .i64 k /\ t = .string (linesA (hdrS sk fa) (lineS els q0 q1 q2 its gg) k) /\ wr = ext ((w.alloc (oC A n c B m d q0 q1 q2 q3)).alloc (oP I n2 c2 GA gn gc KA kn kc s1 s2 s3)) y) (fun _ _ i _ => n2 - (intOf i).toNat)
 case atStart => exact ⟨0, _, Om, rfl, by rw [linesA, HH.out], (ext_ex bL).choose_spec⟩
 case round =>
  obtain ⟨k, y, hk, rfl, rfl, rfl⟩ := hrel;have zk := zln k hk;by_cases hlt : k < n2
  ·
   have HS : Hid (linesA (hdrS sk fa) (lineS els q0 q1 q2 its gg) (k + 1) = linesA (hdrS sk fa) (lineS els q0 q1 q2 its gg) k ++ ((lineS els q0 q1 q2 its gg) k ++ (⟨#[10]⟩ : BA))) := rfl;have zj := hzl k hlt;have clk := fun W h => cl W k hlt h
   clear cl hzl zln;generalize linesA (hdrS sk fa) (lineS els q0 q1 q2 its gg) k = s at *;generalize (lineS els q0 q1 q2 its gg) k = ln at *;have f5 : Fit (ln ++ (⟨#[10]⟩ : BA)) := ft;have f6 : Fit (s ++ (ln ++ (⟨#[10]⟩ : BA))) := ft;clear zk zj;go_wp2_with ((go_at_call 67; ((with_reducible refine ex (clk _ bL) ?_); intro x3)))
   go_roundw
   case rel => exact ⟨k + 1, _, Om, by go_num, by rw [HS.out], (ext_ex bL).choose_spec⟩
   case measure => simp [intOf]; omega
  ·
   obtain rfl : k = n2 := Om;clear zln hzl cl;generalize linesA (hdrS sk fa) (lineS els q0 q1 q2 its gg) k = s at *;generalize marksS gg kk = ms at *;generalize slipS s1 s2 s3 = sl at *;generalize totS els q0 q1 q2 q3 its gg kk s1 s2 s3 fa = tt at *;have f0 : Fit (s ++ ms) := ft;have f1 : Fit (s ++ ms ++ (⟨#[115, 108, 105, 112, 115, 32]⟩ : BA)) := ft;have f2 : Fit (s ++ ms ++ (⟨#[115, 108, 105, 112, 115, 32]⟩ : BA) ++ sl) := ft;have f3 : Fit (s ++ ms ++ (⟨#[115, 108, 105, 112, 115, 32]⟩ : BA) ++ sl ++ (⟨#[10]⟩ : BA)) := ft;have f4 : Fit (s ++ ms ++ (⟨#[115, 108, 105, 112, 115, 32]⟩ : BA) ++ sl ++ (⟨#[10]⟩ : BA) ++ tt) := ft;have f5 : Fit (s ++ ms ++ (⟨#[115, 108, 105, 112, 115, 32]⟩ : BA) ++ sl ++ (⟨#[10]⟩ : BA) ++ tt ++ (⟨#[10]⟩ : BA)) := ft;clear zk zm2 zsl2 zt2 zl zs ze zh hlen;have hS := fun W h => kS (R := (ext ((w.alloc (oC A n c B m d q0 q1 q2 q3)).alloc (oP I k c2 GA gn gc KA kn kc s1 s2 s3)) y)) (W := W) (l := [(⟨w.heap.size, 0, none⟩, .slice A n c), (⟨w.heap.size, 1, none⟩, .slice B m d), (⟨w.heap.size, 2, none⟩, .int .i64 q0), (⟨w.heap.size, 3, none⟩, .int .i64 q1), (⟨w.heap.size, 4, none⟩, .int .i64 q2), (⟨w.heap.size, 5, none⟩, .int .i64 q3), (⟨w.heap.size + 1, 0, none⟩, .slice I k c2), (⟨w.heap.size + 1, 1, none⟩, .slice GA gn gc), (⟨w.heap.size + 1, 2, none⟩, .slice KA kn kc), (⟨w.heap.size + 1, 3, none⟩, .int .i64 s1), (⟨w.heap.size + 1, 4, none⟩, .int .i64 s2), (⟨w.heap.size + 1, 5, none⟩, .int .i64 s3)]) h
   go_wp2
   go_region_held3 (fun w' => w'.cell? ⟨w.heap.size, 0, none⟩ = some (.slice A n c) /\ w'.cell? ⟨w.heap.size, 1, none⟩ = some (.slice B m d) /\ w'.cell? ⟨w.heap.size, 2, none⟩ = some (.int .i64 q0) /\ w'.cell? ⟨w.heap.size, 3, none⟩ = some (.int .i64 q1) /\ w'.cell? ⟨w.heap.size, 4, none⟩ = some (.int .i64 q2) /\ w'.cell? ⟨w.heap.size, 5, none⟩ = some (.int .i64 q3) /\ w'.cell? ⟨w.heap.size + 1, 0, none⟩ = some (.slice I k c2) /\ w'.cell? ⟨w.heap.size + 1, 1, none⟩ = some (.slice GA gn gc) /\ w'.cell? ⟨w.heap.size + 1, 2, none⟩ = some (.slice KA kn kc) /\ w'.cell? ⟨w.heap.size + 1, 3, none⟩ = some (.int .i64 s1) /\ w'.cell? ⟨w.heap.size + 1, 4, none⟩ = some (.int .i64 s2) /\ w'.cell? ⟨w.heap.size + 1, 5, none⟩ = some (.int .i64 s3)) (exact hS _ bL) (first | (go_at_call 82; ((with_reducible refine ex (cm _ bL) ?_); intro x4)) | (go_at_call 83; ((with_reducible refine ex (cd _) ?_); intro x5)) | (go_at_call 69; ((with_reducible refine (ct _ bL).mono ?_); rintro e w' ⟨rfl, x6, rfl⟩)))
   all_goals
    go_wp2;go_ret;exact ⟨ret_str (by rw [HV.out]), ext_ex bL⟩
theorem protocolText_any (w : World) (A B : OA) (n m c d : Nat) (els : List El) (q0 q1 q2 q3 : Int) (I : OA) (n2 c2 : Nat) (its : List It) (GA KA : OA) (gn gc kn kc : Nat) (gg kk : List (List Int)) (s1 s2 s3 : Int) (hM : PP w A n els I n2 c2 its GA gn gg) (hm : RdMk w GA gn KA kn gg kk) (hP : PerfG els q0 q1 q2 q3 its gg kk s1 s2 s3) (hTab : Tab w) (hSg : Sgn w) (sk fa : Int) (hsk : 1 <= sk /\ sk <= 999) (hfa : 10 <= fa /\ fa <= 400) :
  Calls Tryz.prog 40 #[.agg #[.slice A n c, .slice B m d, .int .i64 q0, .int .i64 q1, .int .i64 q2, .int .i64 q3], .agg #[.slice I n2 c2, .slice GA gn gc, .slice KA kn kc, .int .i64 s1, .int .i64 s2, .int .i64 s3], .int .i64 sk, .int .i64 fa] w (fun e w' => e = .returned (.string (textV els q0 q1 q2 q3 its gg kk s1 s2 s3 sk fa)) /\ ∃ y, w' = ext w y) := by
 have cl := fun W k (hk : k < n2) (h : Below w.heap.size w W) => itemLine_any W A B n m c d els q0 q1 q2 q3 I n2 c2 its GA KA gn gc kn kc gg kk s1 s2 s3 (hM.below h) hP (hTab.below h) (hSg.below h) k hk
 have ct := fun W h => totalsLine_any W A B n m c d els q0 q1 q2 q3 I n2 c2 its GA KA gn gc kn kc gg kk s1 s2 s3 (hM.below h) (hm.2.1.below h) hP fa hfa (hTab.below h)
 have hsl := slip_of hP.slip;have hrw := slip_rows hP.slip;obtain ⟨hgr, hkr⟩ := marks_rows hP.mks;have hlen := hP.len;have hmo := marksB_of hP.mks;have Hl := Lib.hid hM.2.1.1.len;have zm := marksS_size hgr hkr;have zsl := numsS_size hrw;have zt := totTo_size (parts_bd (factor := fa) hP hfa) 4 (Nat.le_refl 4);have zh := hdrS_size hsk hfa;have zln := fun k (hk : k <= n2) => linesA_size (s := hdrS sk fa) (f := (lineS els q0 q1 q2 its gg)) k (fun j hj => lineS_size hP j (by rw [Hl.out]; omega))
 rw [Hl.out] at hlen;have zp : ByteArray.size (⟨#[112, 114, 111, 116, 111, 99, 111, 108, 32]⟩ : BA) = 9 := rfl;have zl : ByteArray.size (⟨#[115, 108, 105, 112, 115, 32]⟩ : BA) = 6 := rfl;have zs : ByteArray.size (⟨#[32]⟩ : BA) = 1 := rfl;have ze : ByteArray.size (⟨#[10]⟩ : BA) = 1 := rfl;have zm2 : (marksS gg kk).size <= 1200 := Om;have HV : Hid (textV els q0 q1 q2 q3 its gg kk s1 s2 s3 sk fa = linesA (hdrS sk fa) (lineS els q0 q1 q2 its gg) n2 ++ marksS gg kk ++ (⟨#[115, 108, 105, 112, 115, 32]⟩ : BA) ++ slipS s1 s2 s3 ++ (⟨#[10]⟩ : BA) ++ totS els q0 q1 q2 q3 its gg kk s1 s2 s3 fa ++ (⟨#[10]⟩ : BA)) := by unfold Hid textV; rw [Hl.out]
 have zsl2 : (slipS s1 s2 s3).size <= 63 := zsl;have zt2 : (totS els q0 q1 q2 q3 its gg kk s1 s2 s3 fa).size <= 62 := zt;have cm := fun W h => marksText_any' W GA KA gn gc kn kc gg kk (hm.below h) hP.mks (hTab.below h)
 have cd := fun W h => slipsText_any s1 s2 s3 W hP.slip hrw (hTab.below h)
 have cn := fun W A c1 (h1 : RdI W A 2 [sk, fa]) (h : Below w.heap.size w W) => numbersText_any W A 2 c1 [sk, fa] h1 (row_two Om Om) (hTab.below h)
 have zn := numsS_size (row_two (a := sk) (b := fa) Om Om);have hzl := fun k (hk : k < n2) => lineS_size hP k (by rw [Hl.out]; exact hk)
 have HH : Hid (hdrS sk fa = (⟨#[112, 114, 111, 116, 111, 99, 111, 108, 32]⟩ : BA) ++ numsS [sk, fa] ++ (⟨#[10]⟩ : BA)) := hdrS_nums hsk hfa;clear hM hm hP hsl hrw hgr hkr hmo zm zsl zt hTab hSg;generalize numsS [sk, fa] = ns at *;have f0 : Fit ((⟨#[112, 114, 111, 116, 111, 99, 111, 108, 32]⟩ : BA) ++ ns) := ft;have f1 : Fit ((⟨#[112, 114, 111, 116, 111, 99, 111, 108, 32]⟩ : BA) ++ ns ++ (⟨#[10]⟩ : BA)) := ft;have hRs : ((w.alloc (oC A n c B m d q0 q1 q2 q3)).alloc (oP I n2 c2 GA gn gc KA kn kc s1 s2 s3)).heap.size = w.heap.size + 2 := by simp [go_sem]
 have hB0 := Bld.new ((w.alloc (oC A n c B m d q0 q1 q2 q3)).alloc (oP I n2 c2 GA gn gc KA kn kc s1 s2 s3));rw [hRs] at hB0;have cw0 := fun W (h : Below (((w.alloc (oC A n c B m d q0 q1 q2 q3)).alloc (oP I n2 c2 GA gn gc KA kn kc s1 s2 s3)).alloc (.cells #[.pointer none, .slice none 0 0] 98)).heap.size (((w.alloc (oC A n c B m d q0 q1 q2 q3)).alloc (oP I n2 c2 GA gn gc KA kn kc s1 s2 s3)).alloc (.cells #[.pointer none, .slice none 0 0] 98)) W) => writeString_any (w.heap.size + 2) (w.heap.size + 2) ByteArray.empty ((⟨#[112, 114, 111, 116, 111, 99, 111, 108, 32]⟩ : BA) ++ ns ++ (⟨#[10]⟩ : BA)) W (hB0.below h) (by simp only [ByteArray.size_append]; have : ByteArray.empty.size = 0 := rfl; omega) (Nat.le_trans Sg h.size)
 rw [ByteArray.empty_append, <- HH.out] at cw0;clear zn zp;go_enter Tryz.func40, Tryz.ntmps40;go_wp2_with ((go_at_call 76; ((with_reducible refine ex (cn _ _ _ (RdI.two_ Sg Sg Sg) bL) ?_); intro x1)))
 rw [<- HH.out];refine (cw0 _ bL).mono ?_;rintro e w' ⟨rfl, hB, hb⟩;rw [<- hRs] at hb;obtain ⟨y, rfl⟩ := ext_ex (Below.trans (show Below ((w.alloc (oC A n c B m d q0 q1 q2 q3)).alloc (oP I n2 c2 GA gn gc KA kn kc s1 s2 s3)).heap.size ((w.alloc (oC A n c B m d q0 q1 q2 q3)).alloc (oP I n2 c2 GA gn gc KA kn kc s1 s2 s3)) _ from bL) hb);rw [hRs] at hb;clear hb cw0 hB0;go_wp2
 go_loopw [10, 25] (fun _ i wr => ∃ (k : Nat) (y : World), k <= n2 /\ i = .int .i64 k /\ wr = ext ((w.alloc (oC A n c B m d q0 q1 q2 q3)).alloc (oP I n2 c2 GA gn gc KA kn kc s1 s2 s3)) y /\ Bld (w.heap.size + 2) (w.heap.size + 2) (linesA (hdrS sk fa) (lineS els q0 q1 q2 its gg) k) (ext ((w.alloc (oC A n c B m d q0 q1 q2 q3)).alloc (oP I n2 c2 GA gn gc KA kn kc s1 s2 s3)) y)) (fun _ i _ => n2 - (intOf i).toNat)
 case atStart => exact ⟨0, y, Om, rfl, rfl, hB⟩
 case round =>
  obtain ⟨k, y, hk, rfl, rfl, hB⟩ := hrel;have zk := zln k hk;have hsz : w.heap.size + 2 <= (ext ((w.alloc (oC A n c B m d q0 q1 q2 q3)).alloc (oP I n2 c2 GA gn gc KA kn kc s1 s2 s3)) y).heap.size := by rw [<- hRs]; exact (show Below ((w.alloc (oC A n c B m d q0 q1 q2 q3)).alloc (oP I n2 c2 GA gn gc KA kn kc s1 s2 s3)).heap.size ((w.alloc (oC A n c B m d q0 q1 q2 q3)).alloc (oP I n2 c2 GA gn gc KA kn kc s1 s2 s3)) (ext ((w.alloc (oC A n c B m d q0 q1 q2 q3)).alloc (oP I n2 c2 GA gn gc KA kn kc s1 s2 s3)) y) from bL).size
  by_cases hlt : k < n2
  ·
   have HS : Hid (linesA (hdrS sk fa) (lineS els q0 q1 q2 its gg) (k + 1) = linesA (hdrS sk fa) (lineS els q0 q1 q2 its gg) k ++ ((lineS els q0 q1 q2 its gg) k ++ (⟨#[10]⟩ : BA))) := rfl;have zj := hzl k hlt;have clk := fun W h => cl W k hlt h
   clear cl hzl zln;generalize linesA (hdrS sk fa) (lineS els q0 q1 q2 its gg) k = s at *;generalize (lineS els q0 q1 q2 its gg) k = ln at *;have f5 : Fit (ln ++ (⟨#[10]⟩ : BA)) := ft;have cw := fun W (h : Below (ext ((w.alloc (oC A n c B m d q0 q1 q2 q3)).alloc (oP I n2 c2 GA gn gc KA kn kc s1 s2 s3)) y).heap.size (ext ((w.alloc (oC A n c B m d q0 q1 q2 q3)).alloc (oP I n2 c2 GA gn gc KA kn kc s1 s2 s3)) y) W) => writeString_any (w.heap.size + 2) (w.heap.size + 2) s (ln ++ (⟨#[10]⟩ : BA)) W (hB.below h) (by simp only [ByteArray.size_append]; omega) (Nat.le_trans hsz h.size)
   clear zk zj;go_wp2_with ((go_at_call 65; ((with_reducible refine ex (clk _ bL) ?_); intro x3)))
   refine (cw _ bL).mono ?_;rintro e w' ⟨rfl, hB2, hb⟩;rw [<- hRs] at hb;obtain ⟨y2, rfl⟩ := ext_ex (Below.trans (show Below ((w.alloc (oC A n c B m d q0 q1 q2 q3)).alloc (oP I n2 c2 GA gn gc KA kn kc s1 s2 s3)).heap.size ((w.alloc (oC A n c B m d q0 q1 q2 q3)).alloc (oP I n2 c2 GA gn gc KA kn kc s1 s2 s3)) (ext (ext ((w.alloc (oC A n c B m d q0 q1 q2 q3)).alloc (oP I n2 c2 GA gn gc KA kn kc s1 s2 s3)) y) x3) from bL) hb);clear hb cw hsz;go_wp2;go_roundw
   case rel => exact ⟨k + 1, _, Om, by go_num, rfl, by rw [HS.out]; exact hB2⟩
   case measure => simp [intOf]; omega
  ·
   obtain rfl : k = n2 := Om;clear zln hzl cl;generalize linesA (hdrS sk fa) (lineS els q0 q1 q2 its gg) k = s at *;generalize marksS gg kk = ms at *;generalize slipS s1 s2 s3 = sl at *;generalize totS els q0 q1 q2 q3 its gg kk s1 s2 s3 fa = tt at *;have f1 : Fit (ms ++ (⟨#[115, 108, 105, 112, 115, 32]⟩ : BA)) := ft;have f2 : Fit (ms ++ (⟨#[115, 108, 105, 112, 115, 32]⟩ : BA) ++ sl) := ft;have f3 : Fit (ms ++ (⟨#[115, 108, 105, 112, 115, 32]⟩ : BA) ++ sl ++ (⟨#[10]⟩ : BA)) := ft;have f4 : Fit (ms ++ (⟨#[115, 108, 105, 112, 115, 32]⟩ : BA) ++ sl ++ (⟨#[10]⟩ : BA) ++ tt) := ft;have f5 : Fit (ms ++ (⟨#[115, 108, 105, 112, 115, 32]⟩ : BA) ++ sl ++ (⟨#[10]⟩ : BA) ++ tt ++ (⟨#[10]⟩ : BA)) := ft;have hsum : s ++ (ms ++ (⟨#[115, 108, 105, 112, 115, 32]⟩ : BA) ++ sl ++ (⟨#[10]⟩ : BA) ++ tt ++ (⟨#[10]⟩ : BA)) = s ++ ms ++ (⟨#[115, 108, 105, 112, 115, 32]⟩ : BA) ++ sl ++ (⟨#[10]⟩ : BA) ++ tt ++ (⟨#[10]⟩ : BA) := by simp only [ByteArray.append_assoc]
   have cw := fun W (h : Below (ext ((w.alloc (oC A n c B m d q0 q1 q2 q3)).alloc (oP I k c2 GA gn gc KA kn kc s1 s2 s3)) y).heap.size (ext ((w.alloc (oC A n c B m d q0 q1 q2 q3)).alloc (oP I k c2 GA gn gc KA kn kc s1 s2 s3)) y) W) => writeString_any (w.heap.size + 2) (w.heap.size + 2) s (ms ++ (⟨#[115, 108, 105, 112, 115, 32]⟩ : BA) ++ sl ++ (⟨#[10]⟩ : BA) ++ tt ++ (⟨#[10]⟩ : BA)) W (hB.below h) (by simp only [ByteArray.size_append]; omega) (Nat.le_trans hsz h.size)
   rw [hsum, <- HV.out] at cw;clear hsum HV zk zm2 zsl2 zt2 zl zs ze zh hlen;go_wp2_with (first | (go_at_call 77; ((with_reducible refine (cm _ bL).mono ?_); rintro e w' ⟨x4, rfl, rfl⟩)) | (go_at_call 78; ((with_reducible refine (cd _ bL).mono ?_); rintro e w' ⟨x5, rfl, rfl⟩)) | (go_at_call 68; ((with_reducible refine (ct _ bL).mono ?_); rintro e w' ⟨rfl, x6, rfl⟩)))
   refine (cw _ bL).mono ?_;rintro e w' ⟨rfl, hB2, hb⟩;rw [<- hRs] at hb;obtain ⟨y2, rfl⟩ := ext_ex (Below.trans (show Below ((w.alloc (oC A n c B m d q0 q1 q2 q3)).alloc (oP I k c2 GA gn gc KA kn kc s1 s2 s3)).heap.size ((w.alloc (oC A n c B m d q0 q1 q2 q3)).alloc (oP I k c2 GA gn gc KA kn kc s1 s2 s3)) (ext (ext (ext (ext ((w.alloc (oC A n c B m d q0 q1 q2 q3)).alloc (oP I k c2 GA gn gc KA kn kc s1 s2 s3)) y) x4) x5) x6) from bL) hb);clear hb cw hsz;have cs := buildString_any (w.heap.size + 2) (w.heap.size + 2) _ _ hB2 (by rw [<- hRs]; exact (show Below ((w.alloc (oC A n c B m d q0 q1 q2 q3)).alloc (oP I k c2 GA gn gc KA kn kc s1 s2 s3)).heap.size ((w.alloc (oC A n c B m d q0 q1 q2 q3)).alloc (oP I k c2 GA gn gc KA kn kc s1 s2 s3)) (ext ((w.alloc (oC A n c B m d q0 q1 q2 q3)).alloc (oP I k c2 GA gn gc KA kn kc s1 s2 s3)) y2) from bL).size);go_wp2_with fail
   refine cs.mono ?_;rintro e w' ⟨rfl, hb⟩;rw [<- hRs] at hb;obtain ⟨y3, rfl⟩ := ext_ex (Below.trans (show Below ((w.alloc (oC A n c B m d q0 q1 q2 q3)).alloc (oP I k c2 GA gn gc KA kn kc s1 s2 s3)).heap.size ((w.alloc (oC A n c B m d q0 q1 q2 q3)).alloc (oP I k c2 GA gn gc KA kn kc s1 s2 s3)) (ext ((w.alloc (oC A n c B m d q0 q1 q2 q3)).alloc (oP I k c2 GA gn gc KA kn kc s1 s2 s3)) y2) from bL) hb);go_wp2;go_ret;exact ⟨ret_str rfl, ext_ex bL⟩
def askB (els : List El) (lims : List Int) (q0 q1 q2 q3 : Int) (its : List It) (gg kk : List (List Int)) (s1 s2 s3 factor : Int) : Bool := perfB els lims q0 q1 q2 q3 its gg kk s1 s2 s3 && inB factor 10 400
def totO (els : List El) (lims : List Int) (q0 q1 q2 q3 : Int) (its : List It) (gg kk : List (List Int)) (s1 s2 s3 factor : Int) : ByteArray := if askB els lims q0 q1 q2 q3 its gg kk s1 s2 s3 factor then totS els q0 q1 q2 q3 its gg kk s1 s2 s3 factor else ⟨#[]⟩
theorem ask_of {els : List El} {lims : List Int} (h : askB els lims q0 q1 q2 q3 its gg kk s1 s2 s3 factor = true) : PerfG els q0 q1 q2 q3 its gg kk s1 s2 s3 /\ 10 <= factor /\ factor <= 400 := by
 simp only [askB, Bool.and_eq_true] at h;exact ⟨perf_of h.1, inB_iff.1 h.2⟩
theorem cpFactor_any (factor : Int) (w : World) : Calls Tryz.prog 80 #[.int .i64 factor] w fun e w' => e = .returned (.bool (inB factor 10 400)) /\ w = w' := by
 have cw := fun W => l1In_any factor 10 400 W
 go_enter Tryz.func80, Tryz.ntmps80;go_wp2_with ((go_at_call 60; (with_reducible refine ep (cw _) ?_)))
 go_ret;exact ⟨rfl, rfl⟩
theorem isFactor_any (factor : Int) (w : World) : Calls Tryz.prog 74 #[.int .i64 factor] w fun e w' => e = .returned (.bool (inB factor 10 400)) /\ w = w' := by
 have cw := fun W => within_any factor 10 400 W
 go_enter Tryz.func74, Tryz.ntmps74;go_wp2_with ((go_at_call 64; (with_reducible refine ep (cw _) ?_)))
 go_ret;exact ⟨rfl, rfl⟩
theorem sgAsked_any (w : World) (A B : OA) (n m c d : Nat) (els : List El) (lims : List Int) (q0 q1 q2 q3 : Int) (hc : CodeR w A n B m els lims) (I : OA) (n2 c2 : Nat) (its : List It) (hi : ItsR w I n2 c2 its) (GA KA : OA) (gn gc kn kc : Nat) (gg kk : List (List Int)) (hm : RdMk w GA gn KA kn gg kk) (s1 s2 s3 factor : Int) :
  Calls Tryz.prog 41 #[.agg #[.slice A n c, .slice B m d, .int .i64 q0, .int .i64 q1, .int .i64 q2, .int .i64 q3], .agg #[.slice I n2 c2, .slice GA gn gc, .slice KA kn kc, .int .i64 s1, .int .i64 s2, .int .i64 s3], .int .i64 factor] w fun e w' => e = .returned (.bool (askB els lims q0 q1 q2 q3 its gg kk s1 s2 s3 factor)) /\ ∃ y, w' = ext w y := by
 have cg := fun W h => sgGood_any W A B n m c d els lims q0 q1 q2 q3 (hc.below h) I n2 c2 its (hi.below h) GA KA gn gc kn kc gg kk (hm.below h) s1 s2 s3
 have cw := fun W => cpFactor_any factor W
 have HV : Hid (askB els lims q0 q1 q2 q3 its gg kk s1 s2 s3 factor = (perfB els lims q0 q1 q2 q3 its gg kk s1 s2 s3 && inB factor 10 400)) := rfl;clear hc hi hm;generalize perfB els lims q0 q1 q2 q3 its gg kk s1 s2 s3 = b0 at *;generalize inB factor 10 400 = b1 at *
 cases b0
 ·
  go_enter Tryz.func41, Tryz.ntmps41;go_wp2_with (first | (go_at_call 66; ((with_reducible refine (cg _ bL).mono ?_); rintro e w' ⟨rfl, y1, rfl⟩)) | (go_at_call 80; (with_reducible refine ep (cw _) ?_)))
  go_ret;exact ⟨ret_bool (by rw [HV.out]; rfl), ext_ex bL⟩
 ·
  go_enter Tryz.func41, Tryz.ntmps41;go_wp2_with (first | (go_at_call 66; ((with_reducible refine (cg _ bL).mono ?_); rintro e w' ⟨rfl, y1, rfl⟩)) | (go_at_call 80; (with_reducible refine ep (cw _) ?_)))
  go_ret;exact ⟨ret_bool (by rw [HV.out]; rfl), ext_ex bL⟩
theorem canScore_any (w : World) (A B : OA) (n m c d : Nat) (els : List El) (lims : List Int) (q0 q1 q2 q3 : Int) (hc : CodeR w A n B m els lims) (I : OA) (n2 c2 : Nat) (its : List It) (hi : ItsR w I n2 c2 its) (GA KA : OA) (gn gc kn kc : Nat) (gg kk : List (List Int)) (hm : RdMk w GA gn KA kn gg kk) (s1 s2 s3 factor : Int) :
  Calls Tryz.prog 38 #[.agg #[.slice A n c, .slice B m d, .int .i64 q0, .int .i64 q1, .int .i64 q2, .int .i64 q3], .agg #[.slice I n2 c2, .slice GA gn gc, .slice KA kn kc, .int .i64 s1, .int .i64 s2, .int .i64 s3], .int .i64 factor] w fun e w' => e = .returned (.bool (askB els lims q0 q1 q2 q3 its gg kk s1 s2 s3 factor)) /\ ∃ y, w' = ext w y := by
 have cg := fun W h => isPerformance_any W A B n m c d els lims q0 q1 q2 q3 (hc.below h) I n2 c2 its (hi.below h) GA KA gn gc kn kc gg kk (hm.below h) s1 s2 s3
 have cw := fun W => isFactor_any factor W
 have HV : Hid (askB els lims q0 q1 q2 q3 its gg kk s1 s2 s3 factor = (perfB els lims q0 q1 q2 q3 its gg kk s1 s2 s3 && inB factor 10 400)) := rfl;clear hc hi hm;generalize perfB els lims q0 q1 q2 q3 its gg kk s1 s2 s3 = b0 at *;generalize inB factor 10 400 = b1 at *
 cases b0
 ·
  go_enter Tryz.func38, Tryz.ntmps38;go_wp2_with (first | (go_at_call 63; ((with_reducible refine (cg _ bL).mono ?_); rintro e w' ⟨rfl, y1, rfl⟩)) | (go_at_call 74; (with_reducible refine ep (cw _) ?_)))
  go_ret;exact ⟨ret_bool (by rw [HV.out]; rfl), ext_ex bL⟩
 ·
  go_enter Tryz.func38, Tryz.ntmps38;go_wp2_with (first | (go_at_call 63; ((with_reducible refine (cg _ bL).mono ?_); rintro e w' ⟨rfl, y1, rfl⟩)) | (go_at_call 74; (with_reducible refine ep (cw _) ?_)))
  go_ret;exact ⟨ret_bool (by rw [HV.out]; rfl), ext_ex bL⟩
theorem specTotalsLine_any (w : World) (A B : OA) (n m c d : Nat) (els : List El) (lims : List Int) (q0 q1 q2 q3 : Int) (hc : CodeR w A n B m els lims) (I : OA) (n2 c2 : Nat) (its : List It) (hi : ItsR w I n2 c2 its) (GA KA : OA) (gn gc kn kc : Nat) (gg kk : List (List Int)) (hm : RdMk w GA gn KA kn gg kk) (s1 s2 s3 factor : Int) :
  Calls Tryz.prog 34 #[.agg #[.slice A n c, .slice B m d, .int .i64 q0, .int .i64 q1, .int .i64 q2, .int .i64 q3], .agg #[.slice I n2 c2, .slice GA gn gc, .slice KA kn kc, .int .i64 s1, .int .i64 s2, .int .i64 s3], .int .i64 factor] w (RetSK w (totO els lims q0 q1 q2 q3 its gg kk s1 s2 s3 factor) (askB els lims q0 q1 q2 q3 its gg kk s1 s2 s3 factor)) := by
 have cg := fun W h => sgAsked_any W A B n m c d els lims q0 q1 q2 q3 (hc.below h) I n2 c2 its (hi.below h) GA KA gn gc kn kc gg kk (hm.below h) s1 s2 s3 factor
 have HO : Hid (totO els lims q0 q1 q2 q3 its gg kk s1 s2 s3 factor = if askB els lims q0 q1 q2 q3 its gg kk s1 s2 s3 factor then totS els q0 q1 q2 q3 its gg kk s1 s2 s3 factor else ⟨#[]⟩) := rfl
 cases hp : askB els lims q0 q1 q2 q3 its gg kk s1 s2 s3 factor
 ·
  rw [hp] at cg HO;clear hp hc hi hm;go_enter Tryz.func34, Tryz.ntmps34;go_wp2_with (first | (go_at_call 41; ((with_reducible refine ex (cg _ bL) ?_); intro y1)))
  go_ret2;exact RetSK.mk_ (by rw [HO.out]; rfl) rfl bL
 ·
  have hP := ask_of hp;have hM : PP w A n els I n2 c2 its GA gn gg := ⟨⟨hc.1, hc.2.2.1⟩, ⟨hi.1, hi.2.2.1⟩, hm.1⟩;have hK := hm.2.1;have cl := fun W h => ptTotals_any W A B n m c d els q0 q1 q2 q3 I n2 c2 its GA KA gn gc kn kc gg kk s1 s2 s3 (hM.below h) (hK.below h) hP.1 factor hP.2
  rw [hp] at cg HO;have HO2 : Hid (totO els lims q0 q1 q2 q3 its gg kk s1 s2 s3 factor = totS els q0 q1 q2 q3 its gg kk s1 s2 s3 factor) := by unfold Hid; rw [HO.out]; rfl
  clear hp hc hi hm hP hM hK HO;go_enter Tryz.func34, Tryz.ntmps34;go_wp2_with (first | (go_at_call 41; ((with_reducible refine ex (cg _ bL) ?_); intro y1)) | (go_at_call 69; ((with_reducible refine (cl _ bL).mono ?_); rintro e w' ⟨rfl, y2, rfl⟩)))
  go_ret2;exact RetSK.mk_ (by rw [HO2.out]) rfl bL
theorem implTotalsLine_any (w : World) (A B : OA) (n m c d : Nat) (els : List El) (lims : List Int) (q0 q1 q2 q3 : Int) (hc : CodeR w A n B m els lims) (I : OA) (n2 c2 : Nat) (its : List It) (hi : ItsR w I n2 c2 its) (GA KA : OA) (gn gc kn kc : Nat) (gg kk : List (List Int)) (hm : RdMk w GA gn KA kn gg kk) (s1 s2 s3 factor : Int) (hTab : Tab w) :
  Calls Tryz.prog 33 #[.agg #[.slice A n c, .slice B m d, .int .i64 q0, .int .i64 q1, .int .i64 q2, .int .i64 q3], .agg #[.slice I n2 c2, .slice GA gn gc, .slice KA kn kc, .int .i64 s1, .int .i64 s2, .int .i64 s3], .int .i64 factor] w (RetSK w (totO els lims q0 q1 q2 q3 its gg kk s1 s2 s3 factor) (askB els lims q0 q1 q2 q3 its gg kk s1 s2 s3 factor)) := by
 have cg := fun W h => canScore_any W A B n m c d els lims q0 q1 q2 q3 (hc.below h) I n2 c2 its (hi.below h) GA KA gn gc kn kc gg kk (hm.below h) s1 s2 s3 factor
 have HO : Hid (totO els lims q0 q1 q2 q3 its gg kk s1 s2 s3 factor = if askB els lims q0 q1 q2 q3 its gg kk s1 s2 s3 factor then totS els q0 q1 q2 q3 its gg kk s1 s2 s3 factor else ⟨#[]⟩) := rfl
 cases hp : askB els lims q0 q1 q2 q3 its gg kk s1 s2 s3 factor
 ·
  rw [hp] at cg HO;clear hp hc hi hm;go_enter Tryz.func33, Tryz.ntmps33;go_wp2_with (first | (go_at_call 38; ((with_reducible refine ex (cg _ bL) ?_); intro y1)))
  go_ret2;exact RetSK.mk_ (by rw [HO.out]; rfl) rfl bL
 ·
  have hP := ask_of hp;have hM : PP w A n els I n2 c2 its GA gn gg := ⟨⟨hc.1, hc.2.2.1⟩, ⟨hi.1, hi.2.2.1⟩, hm.1⟩;have hK := hm.2.1;have cl := fun W h => totalsLine_any W A B n m c d els q0 q1 q2 q3 I n2 c2 its GA KA gn gc kn kc gg kk s1 s2 s3 (hM.below h) (hK.below h) hP.1 factor hP.2 (hTab.below h)
  rw [hp] at cg HO;have HO2 : Hid (totO els lims q0 q1 q2 q3 its gg kk s1 s2 s3 factor = totS els q0 q1 q2 q3 its gg kk s1 s2 s3 factor) := by unfold Hid; rw [HO.out]; rfl
  clear hp hc hi hm hP hM hK HO;go_enter Tryz.func33, Tryz.ntmps33;go_wp2_with (first | (go_at_call 38; ((with_reducible refine ex (cg _ bL) ?_); intro y1)) | (go_at_call 68; ((with_reducible refine (cl _ bL).mono ?_); rintro e w' ⟨rfl, y2, rfl⟩)))
  go_ret2;exact RetSK.mk_ (by rw [HO2.out]) rfl bL
def proB (els : List El) (lims : List Int) (q0 q1 q2 q3 : Int) (its : List It) (gg kk : List (List Int)) (s1 s2 s3 skater factor : Int) : Bool := askB els lims q0 q1 q2 q3 its gg kk s1 s2 s3 factor && inB skater 1 999
theorem ptSkater_any (skater : Int) (w : World) : Calls Tryz.prog 42 #[.int .i64 skater] w fun e w' => e = .returned (.bool (inB skater 1 999)) /\ w = w' := by
 have cw := fun W => l1In_any skater 1 999 W
 go_enter Tryz.func42, Tryz.ntmps42;go_wp2_with ((go_at_call 60; (with_reducible refine ep (cw _) ?_)))
 go_ret;exact ⟨rfl, rfl⟩
theorem isSkater_any (skater : Int) (w : World) : Calls Tryz.prog 39 #[.int .i64 skater] w fun e w' => e = .returned (.bool (inB skater 1 999)) /\ w = w' := by
 have cw := fun W => within_any skater 1 999 W
 go_enter Tryz.func39, Tryz.ntmps39;go_wp2_with ((go_at_call 64; (with_reducible refine ep (cw _) ?_)))
 go_ret;exact ⟨rfl, rfl⟩
end Go.Proofs.YtlfhhkgleapamaaGreatDoor
