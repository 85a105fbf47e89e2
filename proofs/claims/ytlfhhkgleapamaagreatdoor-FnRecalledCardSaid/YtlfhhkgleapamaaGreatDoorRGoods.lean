/- Contracts: what an item's grades add to its base, an item's score. Conditions: a valid code, known items, 3 to 9 grades from -5 to 5. -/
import Derived.Test.YtlfhhkgleapamaaGreatDoorRTrims
import Derived.Test.YtlfhhkgleapamaaGreatDoorRBase0
import Derived.Test.YtlfhhkgleapamaaGreatDoorRCode34
import Derived.Test.YtlfhhkgleapamaaGreatDoorRStrs0
set_option linter.unusedVariables false
set_option linter.unusedSimpArgs false
set_option maxRecDepth 100000
set_option maxHeartbeats 16000000
namespace Go.Proofs.YtlfhhkgleapamaaGreatDoor
open Go.RowKit
variable {w w' : World}
def GP (w : World) (A : OA) (n : Nat) (els : List El) (q0 q1 q2 : Int) (I : OA) (n2 c2 : Nat) (its : List It) : Prop :=
 (RdEl w A n els /\ n <= 1099511627776 /\ CodeG els q0 q1 q2) /\ RdIt w I n2 its /\ n2 <= 1099511627776 /\ n2 <= c2 /\ ItsG els its
theorem GP.below {A : OA} {n : Nat} {els : List El} {q0 q1 q2 : Int} {I : OA} {n2 c2 : Nat} {its : List It} (h : GP w A n els q0 q1 q2 I n2 c2 its) (hb : Below w.heap.size w w') : GP w' A n els q0 q1 q2 I n2 c2 its := ⟨⟨h.1.1.below hb, h.1.2⟩, h.2.1.below hb, h.2.2⟩

theorem bsItemG (w : World) (A B : OA) (n m c d : Nat) (els : List El) (q0 q1 q2 q3 : Int) (I : OA) (n2 c2 : Nat) (its : List It) (k : Nat) (hG : GP w A n els q0 q1 q2 I n2 c2 its) (hk : k < n2) : Calls Tryz.prog 117 #[.agg #[.slice A n c, .slice B m d, .int .i64 q0, .int .i64 q1, .int .i64 q2, .int .i64 q3], .slice I n2 c2, .int .i64 k] w (fun e w' => e = .returned (.int .i64 (baseV els q0 q1 q2 its k)) /\ ∃ y, w' = ext w y) :=
 bsItem_any w A B n m c d els q0 q1 q2 q3 I n2 c2 its k hG.1.1 hG.1.2.1 hG.1.2.2 hG.2.1 hk hG.2.2.1 hG.2.2.2.1 hG.2.2.2.2
theorem itemBaseG (w : World) (A B : OA) (n m c d : Nat) (els : List El) (q0 q1 q2 q3 : Int) (I : OA) (n2 c2 : Nat) (its : List It) (k : Nat) (hG : GP w A n els q0 q1 q2 I n2 c2 its) (hk : k < n2) : Calls Tryz.prog 110 #[.agg #[.slice A n c, .slice B m d, .int .i64 q0, .int .i64 q1, .int .i64 q2, .int .i64 q3], .slice I n2 c2, .int .i64 k] w (fun e w' => e = .returned (.int .i64 (baseV els q0 q1 q2 its k)) /\ ∃ y, w' = ext w y) :=
 itemBase_any w A B n m c d els q0 q1 q2 q3 I n2 c2 its k hG.1.1 hG.1.2.1 hG.1.2.2 hG.2.1 hk hG.2.2.1 hG.2.2.2.1 hG.2.2.2.2
theorem elPoints_any (w : World) (A B : OA) (n m c d : Nat) (els : List El) (q0 q1 q2 q3 : Int) (I : OA) (n2 c2 : Nat) (its : List It) (k : Nat) (hG : GP w A n els q0 q1 q2 I n2 c2 its) (hk : k < n2) (G : OA) (gn gc : Nat) (g : List Int) (hg : RdI w G gn g) (hgg : GrG g) :
  Calls Tryz.prog 215 #[.agg #[.slice A n c, .slice B m d, .int .i64 q0, .int .i64 q1, .int .i64 q2, .int .i64 q3], .slice I n2 c2, .int .i64 k, .slice G gn gc] w (fun e w' => e = .returned (.int .i64 (ptsV els q0 q1 q2 its k g)) /\ ∃ y, w' = ext w y) := by
 have cb := fun W h => bsItemG W A B n m c d els q0 q1 q2 q3 I n2 c2 its k (hG.below h) hk
 obtain ⟨⟨hA, hn, hC⟩, hi, hn2, hc2, hI⟩ := hG;have Hl := Lib.hid hi.len;have hIk := hI k (by rw [Hl.out]; exact hk);have hgl := hg.len;have cm := fun W h => tmMean_any W G gn gc g (hg.below h) (by have := hgg.1; omega) (by have := hgg.1; omega) (fun x hx => by have := hgg.2 x hx; omega)
 have hmul := pts_mul hC hIk hgg;have htn := trimN_bd hgg.1.1 hgg.1.2;obtain ⟨b, off, NA, nn, nc, MA, mn, mc, rfl, hb0, hc0, hc1, hc2', hN, hM, _, _⟩ := hi.at_ k hk;have cu := fun W h => elUnit_any W A B n m c d els q0 q1 q2 q3 NA MA nn nc mn mc (its[k]?.getD zIt) (hA.below h) hn hC (hN.below h) (hM.below h) hIk
 have HV : Hid (ptsV els q0 q1 q2 its k g = if baseV els q0 q1 q2 its k = 0 then 0 else roundV (trimS g * unitV els q2 (its[k]?.getD zIt)) (10 * (trimN g : Int))) := rfl;clear hA hC hi hc2 hI hIk hN hM hgg hg;generalize its[k]?.getD zIt = it at *;generalize baseV els q0 q1 q2 its k = bv at *;generalize unitV els q2 it = uv at *;generalize trimS g = ts at *;generalize trimN g = tn at *;have hS := fun W h => kS (R := (w.alloc (oC A n c B m d q0 q1 q2 q3))) (W := W) (l := [(⟨w.heap.size, 0, none⟩, .slice A n c), (⟨w.heap.size, 1, none⟩, .slice B m d), (⟨w.heap.size, 2, none⟩, .int .i64 q0), (⟨w.heap.size, 3, none⟩, .int .i64 q1), (⟨w.heap.size, 4, none⟩, .int .i64 q2), (⟨w.heap.size, 5, none⟩, .int .i64 q3), (⟨b, off + k * 3, none⟩, .slice NA nn nc), (⟨b, off + k * 3 + 1, none⟩, .slice MA mn mc), (⟨b, off + k * 3 + 2, none⟩, .bool it.2.2)]) h
 clear hc0 hc1 hc2';by_cases h0 : bv = 0
 ·
  have HW := Lib.hid (show ptsV els q0 q1 q2 its k g = 0 by rw [HV.out, if_pos h0]);subst h0;clear HV;go_enter Tryz.func215, Tryz.ntmps215;go_wp2_with (first | (go_at_call 117; ((with_reducible refine (cb _ bL).mono ?_); rintro e w' ⟨rfl, y1, rfl⟩)))
  go_ret;exact ⟨ret_int (by rw [HW.out]), ext_ex bL⟩
 ·
  have b0 : (bv == 0) = false := by simp [h0]
  have HW := Lib.hid (show ptsV els q0 q1 q2 its k g = roundV (ts * uv) (10 * (tn : Int)) by rw [HV.out, if_neg h0]);have e1 : IntKind.i64.wrap (ts * uv) = ts * uv := IntWalk.i64_in _ Om;have e2 : IntKind.i64.wrap (10 * (tn : Int)) = 10 * (tn : Int) := IntWalk.i64_in _ Om;have cr := fun W => poRound_any (ts * uv) (10 * (tn : Int)) W Om Om Om Om
  clear HV;go_enter Tryz.func215, Tryz.ntmps215;go_wp2_with (first | (go_at_call 117; ((with_reducible refine (cb _ bL).mono ?_); rintro e w' ⟨rfl, y1, rfl⟩)) | (go_at_call 241; ((with_reducible refine (cm _ bL).mono ?_); rintro e w' ⟨rfl, y2, rfl⟩)))
  go_region_held3 (fun w' => w'.cell? ⟨w.heap.size, 0, none⟩ = some (.slice A n c) /\ w'.cell? ⟨w.heap.size, 1, none⟩ = some (.slice B m d) /\ w'.cell? ⟨w.heap.size, 2, none⟩ = some (.int .i64 q0) /\ w'.cell? ⟨w.heap.size, 3, none⟩ = some (.int .i64 q1) /\ w'.cell? ⟨w.heap.size, 4, none⟩ = some (.int .i64 q2) /\ w'.cell? ⟨w.heap.size, 5, none⟩ = some (.int .i64 q3) /\ w'.cell? ⟨b, off + k * 3, none⟩ = some (.slice NA nn nc) /\ w'.cell? ⟨b, off + k * 3 + 1, none⟩ = some (.slice MA mn mc) /\ w'.cell? ⟨b, off + k * 3 + 2, none⟩ = some (.bool it.2.2)) (exact hS _ bL) (first | (go_at_call 242; ((with_reducible refine ex (cu _ bL) ?_); intro y3)) | (go_at_call 194; (with_reducible refine ep (cr _) ?_)))
  all_goals
   go_wp2;go_ret;exact ⟨ret_int (by rw [HW.out]), ext_ex bL⟩
theorem pointsFor_any (w : World) (A B : OA) (n m c d : Nat) (els : List El) (q0 q1 q2 q3 : Int) (I : OA) (n2 c2 : Nat) (its : List It) (k : Nat) (hG : GP w A n els q0 q1 q2 I n2 c2 its) (hk : k < n2) (G : OA) (gn gc : Nat) (g : List Int) (hg : RdI w G gn g) (hgg : GrG g) :
  Calls Tryz.prog 111 #[.agg #[.slice A n c, .slice B m d, .int .i64 q0, .int .i64 q1, .int .i64 q2, .int .i64 q3], .slice I n2 c2, .int .i64 k, .slice G gn gc] w (fun e w' => e = .returned (.int .i64 (ptsV els q0 q1 q2 its k g)) /\ ∃ y, w' = ext w y) := by
 have cb := fun W h => itemBaseG W A B n m c d els q0 q1 q2 q3 I n2 c2 its k (hG.below h) hk
 obtain ⟨⟨hA, hn, hC⟩, hi, hn2, hc2, hI⟩ := hG;have Hl := Lib.hid hi.len;have hIk := hI k (by rw [Hl.out]; exact hk);have hgl := hg.len;have cm := fun W h => trimmedSum_any W G gn gc g (hg.below h) (by have := hgg.1; omega) (by have := hgg.1; omega) (fun x hx => by have := hgg.2 x hx; omega)
 have hmul := pts_mul hC hIk hgg;have htn := trimN_bd hgg.1.1 hgg.1.2;obtain ⟨b, off, NA, nn, nc, MA, mn, mc, rfl, hb0, hc0, hc1, hc2', hN, hM, _, _⟩ := hi.at_ k hk;have cu := fun W h => unitOf_any W A B n m c d els q0 q1 q2 q3 NA MA nn nc mn mc (its[k]?.getD zIt) (hA.below h) hn hC (hN.below h) (hM.below h) hIk
 have HV : Hid (ptsV els q0 q1 q2 its k g = if baseV els q0 q1 q2 its k = 0 then 0 else roundV (trimS g * unitV els q2 (its[k]?.getD zIt)) (10 * (trimN g : Int))) := rfl;clear hA hC hi hc2 hI hIk hN hM hgg hg;generalize its[k]?.getD zIt = it at *;generalize baseV els q0 q1 q2 its k = bv at *;generalize unitV els q2 it = uv at *;generalize trimS g = ts at *;generalize trimN g = tn at *;have hS := fun W h => kS (R := (w.alloc (oC A n c B m d q0 q1 q2 q3))) (W := W) (l := [(⟨w.heap.size, 0, none⟩, .slice A n c), (⟨w.heap.size, 1, none⟩, .slice B m d), (⟨w.heap.size, 2, none⟩, .int .i64 q0), (⟨w.heap.size, 3, none⟩, .int .i64 q1), (⟨w.heap.size, 4, none⟩, .int .i64 q2), (⟨w.heap.size, 5, none⟩, .int .i64 q3), (⟨b, off + k * 3, none⟩, .slice NA nn nc), (⟨b, off + k * 3 + 1, none⟩, .slice MA mn mc), (⟨b, off + k * 3 + 2, none⟩, .bool it.2.2)]) h
 clear hc0 hc1 hc2';by_cases h0 : bv = 0
 ·
  have HW := Lib.hid (show ptsV els q0 q1 q2 its k g = 0 by rw [HV.out, if_pos h0]);subst h0;clear HV;go_enter Tryz.func111, Tryz.ntmps111;go_wp2_with (first | (go_at_call 110; ((with_reducible refine (cb _ bL).mono ?_); rintro e w' ⟨rfl, y1, rfl⟩)))
  go_ret;exact ⟨ret_int (by rw [HW.out]), ext_ex bL⟩
 ·
  have b0 : (bv == 0) = false := by simp [h0]
  have HW := Lib.hid (show ptsV els q0 q1 q2 its k g = roundV (ts * uv) (10 * (tn : Int)) by rw [HV.out, if_neg h0]);have e1 : IntKind.i64.wrap (ts * uv) = ts * uv := IntWalk.i64_in _ Om;have e2 : IntKind.i64.wrap (10 * (tn : Int)) = 10 * (tn : Int) := IntWalk.i64_in _ Om;have cr := fun W => roundDiv_any (ts * uv) (10 * (tn : Int)) W Om Om Om Om
  clear HV;go_enter Tryz.func111, Tryz.ntmps111;go_wp2_with (first | (go_at_call 110; ((with_reducible refine (cb _ bL).mono ?_); rintro e w' ⟨rfl, y1, rfl⟩)) | (go_at_call 160; ((with_reducible refine (cm _ bL).mono ?_); rintro e w' ⟨rfl, y2, rfl⟩)))
  go_region_held3 (fun w' => w'.cell? ⟨w.heap.size, 0, none⟩ = some (.slice A n c) /\ w'.cell? ⟨w.heap.size, 1, none⟩ = some (.slice B m d) /\ w'.cell? ⟨w.heap.size, 2, none⟩ = some (.int .i64 q0) /\ w'.cell? ⟨w.heap.size, 3, none⟩ = some (.int .i64 q1) /\ w'.cell? ⟨w.heap.size, 4, none⟩ = some (.int .i64 q2) /\ w'.cell? ⟨w.heap.size, 5, none⟩ = some (.int .i64 q3) /\ w'.cell? ⟨b, off + k * 3, none⟩ = some (.slice NA nn nc) /\ w'.cell? ⟨b, off + k * 3 + 1, none⟩ = some (.slice MA mn mc) /\ w'.cell? ⟨b, off + k * 3 + 2, none⟩ = some (.bool it.2.2)) (exact hS _ bL) (first | (go_at_call 162; ((with_reducible refine ex (cu _ bL) ?_); intro y3)) | (go_at_call 161; (with_reducible refine ep (cr _) ?_)))
  all_goals
   go_wp2;go_ret;exact ⟨ret_int (by rw [HW.out]), ext_ex bL⟩
theorem elOf_any (w : World) (A B : OA) (n m c d : Nat) (els : List El) (q0 q1 q2 q3 : Int) (I : OA) (n2 c2 : Nat) (its : List It) (k : Nat) (hG : GP w A n els q0 q1 q2 I n2 c2 its) (hk : k < n2) (G : OA) (gn gc : Nat) (g : List Int) (hg : RdI w G gn g) (hgg : GrG g) :
  Calls Tryz.prog 169 #[.agg #[.slice A n c, .slice B m d, .int .i64 q0, .int .i64 q1, .int .i64 q2, .int .i64 q3], .slice I n2 c2, .int .i64 k, .slice G gn gc] w (fun e w' => e = .returned (.int .i64 (baseV els q0 q1 q2 its k + ptsV els q0 q1 q2 its k g)) /\ ∃ y, w' = ext w y) := by
 have cb := fun W h => bsItemG W A B n m c d els q0 q1 q2 q3 I n2 c2 its k (hG.below h) hk
 have cp := fun W h => elPoints_any W A B n m c d els q0 q1 q2 q3 I n2 c2 its k (hG.below h) hk G gn gc g (hg.below h) hgg
 have hIk := hG.2.2.2.2 k (by rw [hG.2.1.len]; exact hk);have hb1 := base_bd (its := its) (k := k) hG.1.2.2 hIk;have hb2 := pts_bd (its := its) (k := k) hG.1.2.2 hIk hgg;clear hG hg hgg hIk;generalize baseV els q0 q1 q2 its k = bv at *;generalize ptsV els q0 q1 q2 its k g = pv at *;have e1 : IntKind.i64.wrap (bv + pv) = bv + pv := IntWalk.i64_in _ Om;have hS := fun W h => kS (R := (w.alloc (oC A n c B m d q0 q1 q2 q3))) (W := W) (l := [(⟨w.heap.size, 0, none⟩, .slice A n c), (⟨w.heap.size, 1, none⟩, .slice B m d), (⟨w.heap.size, 2, none⟩, .int .i64 q0), (⟨w.heap.size, 3, none⟩, .int .i64 q1), (⟨w.heap.size, 4, none⟩, .int .i64 q2), (⟨w.heap.size, 5, none⟩, .int .i64 q3)]) h
 go_enter Tryz.func169, Tryz.ntmps169;go_wp2
 go_region_held3 (fun w' => w'.cell? ⟨w.heap.size, 0, none⟩ = some (.slice A n c) /\ w'.cell? ⟨w.heap.size, 1, none⟩ = some (.slice B m d) /\ w'.cell? ⟨w.heap.size, 2, none⟩ = some (.int .i64 q0) /\ w'.cell? ⟨w.heap.size, 3, none⟩ = some (.int .i64 q1) /\ w'.cell? ⟨w.heap.size, 4, none⟩ = some (.int .i64 q2) /\ w'.cell? ⟨w.heap.size, 5, none⟩ = some (.int .i64 q3)) (exact hS _ bL) (first | (go_at_call 117; ((with_reducible refine (cb _ bL).mono ?_); rintro e w' ⟨rfl, y1, rfl⟩)) | (go_at_call 215; ((with_reducible refine (cp _ bL).mono ?_); rintro e w' ⟨rfl, y2, rfl⟩)))
 all_goals
  go_wp2;go_ret;exact ⟨ret_int rfl, ext_ex bL⟩
theorem elScore_any (w : World) (A B : OA) (n m c d : Nat) (els : List El) (q0 q1 q2 q3 : Int) (I : OA) (n2 c2 : Nat) (its : List It) (k : Nat) (hG : GP w A n els q0 q1 q2 I n2 c2 its) (hk : k < n2) (GA KA : OA) (gn gc kn kc : Nat) (gg : List (List Int)) (hg : RdM w GA gn gg) (hkg : k < gn) (hgg : GrG (gg[k]?.getD [])) :
  Calls Tryz.prog 118 #[.agg #[.slice A n c, .slice B m d, .int .i64 q0, .int .i64 q1, .int .i64 q2, .int .i64 q3], .slice I n2 c2, .agg #[.slice GA gn gc, .slice KA kn kc], .int .i64 k] w (fun e w' => e = .returned (.int .i64 (baseV els q0 q1 q2 its k + ptsV els q0 q1 q2 its k (gg[k]?.getD []))) /\ ∃ y, w' = ext w y) := by
 obtain ⟨bg, og, RA, rn, rc, rfl, hbg, hcg, hr, _, _⟩ := hg.at_ k hkg;have cp := fun W h => elOf_any W A B n m c d els q0 q1 q2 q3 I n2 c2 its k (hG.below h) hk RA rn rc _ (hr.below h) hgg
 clear hG hg hgg hr;generalize baseV els q0 q1 q2 its k + ptsV els q0 q1 q2 its k (gg[k]?.getD []) = v at *;have hS := fun W h => kS (R := ((w.alloc (oC A n c B m d q0 q1 q2 q3)).alloc (.cells #[.slice (some ⟨bg, og, none⟩) gn gc, .slice KA kn kc] 31))) (W := W) (l := [(⟨w.heap.size, 0, none⟩, .slice A n c), (⟨w.heap.size, 1, none⟩, .slice B m d), (⟨w.heap.size, 2, none⟩, .int .i64 q0), (⟨w.heap.size, 3, none⟩, .int .i64 q1), (⟨w.heap.size, 4, none⟩, .int .i64 q2), (⟨w.heap.size, 5, none⟩, .int .i64 q3), (⟨w.heap.size + 1, 0, none⟩, .slice (some ⟨bg, og, none⟩) gn gc), (⟨bg, og + k, none⟩, .slice RA rn rc)]) h
 clear hcg;go_enter Tryz.func118, Tryz.ntmps118;go_wp2
 go_region_held3 (fun w' => w'.cell? ⟨w.heap.size, 0, none⟩ = some (.slice A n c) /\ w'.cell? ⟨w.heap.size, 1, none⟩ = some (.slice B m d) /\ w'.cell? ⟨w.heap.size, 2, none⟩ = some (.int .i64 q0) /\ w'.cell? ⟨w.heap.size, 3, none⟩ = some (.int .i64 q1) /\ w'.cell? ⟨w.heap.size, 4, none⟩ = some (.int .i64 q2) /\ w'.cell? ⟨w.heap.size, 5, none⟩ = some (.int .i64 q3) /\ w'.cell? ⟨w.heap.size + 1, 0, none⟩ = some (.slice (some ⟨bg, og, none⟩) gn gc) /\ w'.cell? ⟨bg, og + k, none⟩ = some (.slice RA rn rc)) (exact hS _ bL) (first | (go_at_call 169; ((with_reducible refine (cp _ bL).mono ?_); rintro e w' ⟨rfl, y1, rfl⟩)))
 all_goals
  go_wp2;go_ret;exact ⟨ret_int rfl, ext_ex bL⟩
def CodeR (w : World) (A : OA) (n : Nat) (B : OA) (m : Nat) (els : List El) (lims : List Int) : Prop :=
 RdEl w A n els /\ RdI w B m lims /\ n <= 1099511627776 /\ m <= 1099511627776 /\ ∀ x ∈ els, x.1.size <= 9223372036854775807
def ItsR (w : World) (I : OA) (n2 c2 : Nat) (its : List It) : Prop := RdIt w I n2 its /\ n2 <= 1099511627776 /\ n2 <= c2 /\ ∀ x ∈ its, itSmall x
theorem CodeR.below {A : OA} {n : Nat} {B : OA} {m : Nat} {els : List El} {lims : List Int} (h : CodeR w A n B m els lims) (hb : Below w.heap.size w w') : CodeR w' A n B m els lims := ⟨h.1.below hb, h.2.1.below hb, h.2.2⟩
theorem ItsR.below {I : OA} {n2 c2 : Nat} {its : List It} (h : ItsR w I n2 c2 its) (hb : Below w.heap.size w w') : ItsR w' I n2 c2 its := ⟨h.1.below hb, h.2⟩
def progB (els : List El) (lims : List Int) (q0 q1 q2 q3 : Int) (its : List It) : Bool := codeB els lims q0 q1 q2 q3 && (itemsB its && knowB els its)
def mksB (gg kk : List (List Int)) (n : Nat) : Bool := marksB gg kk && decide (gg.length = n)
def judgedB (els : List El) (lims : List Int) (q0 q1 q2 q3 : Int) (its : List It) (gg kk : List (List Int)) : Bool := progB els lims q0 q1 q2 q3 its && mksB gg kk its.length
def perfB (els : List El) (lims : List Int) (q0 q1 q2 q3 : Int) (its : List It) (gg kk : List (List Int)) (s1 s2 s3 : Int) : Bool := judgedB els lims q0 q1 q2 q3 its gg kk && slipB s1 s2 s3
theorem mkGood_any (w : World) (GA KA : OA) (gn gc kn kc : Nat) (gg kk : List (List Int)) (hm : RdMk w GA gn KA kn gg kk) (j : Nat) :
  Calls Tryz.prog 166 #[.agg #[.slice GA gn gc, .slice KA kn kc], .int .i64 j] w (fun e w' => e = .returned (.bool (mksB gg kk j)) /\ ∃ y, w' = ext w y) := by
 have cm := fun W h => mkAll_any W GA KA gn kn gc kc gg kk (hm.below h)
 have HV : Hid (mksB gg kk j = (marksB gg kk && decide (gn = j))) := by unfold Hid mksB; rw [hm.1.len]
 generalize marksB gg kk = b0 at *
 cases b0
 ·
  go_enter Tryz.func166, Tryz.ntmps166;go_wp2_with (first | (go_at_call 151; ((with_reducible refine ex (cm _ bL) ?_); intro y)))
  go_ret;exact ⟨ret_bool (by rw [HV.out]; rfl), ext_ex bL⟩
 ·
  by_cases hj : gn = j
  ·
   obtain rfl := hj;go_enter Tryz.func166, Tryz.ntmps166;go_wp2_with (first | (go_at_call 151; ((with_reducible refine ex (cm _ bL) ?_); intro y)))
   go_ret;exact ⟨ret_bool (by rw [HV.out]; simp), ext_ex bL⟩
  ·
   have hjb : ((gn : Int) == (j : Int)) = false := by simp; omega
   go_enter Tryz.func166, Tryz.ntmps166;go_wp2_with (first | (go_at_call 151; ((with_reducible refine ex (cm _ bL) ?_); intro y)))
   go_ret;exact ⟨ret_bool (by rw [HV.out]; simp [hj]), ext_ex bL⟩
theorem areMarks_any (w : World) (GA KA : OA) (gn gc kn kc : Nat) (gg kk : List (List Int)) (hm : RdMk w GA gn KA kn gg kk) (j : Nat) :
  Calls Tryz.prog 206 #[.agg #[.slice GA gn gc, .slice KA kn kc], .int .i64 j] w (fun e w' => e = .returned (.bool (mksB gg kk j)) /\ ∃ y, w' = ext w y) := by
 have cm := fun W h => isMarks_any W GA KA gn kn gc kc gg kk (hm.below h)
 have HV : Hid (mksB gg kk j = (marksB gg kk && decide (gn = j))) := by unfold Hid mksB; rw [hm.1.len]
 generalize marksB gg kk = b0 at *
 cases b0
 ·
  go_enter Tryz.func206, Tryz.ntmps206;go_wp2_with (first | (go_at_call 128; ((with_reducible refine ex (cm _ bL) ?_); intro y)))
  go_ret;exact ⟨ret_bool (by rw [HV.out]; rfl), ext_ex bL⟩
 ·
  by_cases hj : gn = j
  ·
   obtain rfl := hj;go_enter Tryz.func206, Tryz.ntmps206;go_wp2_with (first | (go_at_call 128; ((with_reducible refine ex (cm _ bL) ?_); intro y)))
   go_ret;exact ⟨ret_bool (by rw [HV.out]; simp), ext_ex bL⟩
  ·
   have hjb : ((gn : Int) == (j : Int)) = false := by simp; omega
   go_enter Tryz.func206, Tryz.ntmps206;go_wp2_with (first | (go_at_call 128; ((with_reducible refine ex (cm _ bL) ?_); intro y)))
   go_ret;exact ⟨ret_bool (by rw [HV.out]; simp [hj]), ext_ex bL⟩
theorem bsGood_any (w : World) (A B : OA) (n m c d : Nat) (els : List El) (lims : List Int) (q0 q1 q2 q3 : Int) (hc : CodeR w A n B m els lims) (I : OA) (n2 c2 : Nat) (its : List It) (hi : ItsR w I n2 c2 its) :
  Calls Tryz.prog 165 #[.agg #[.slice A n c, .slice B m d, .int .i64 q0, .int .i64 q1, .int .i64 q2, .int .i64 q3], .slice I n2 c2] w (fun e w' => e = .returned (.bool (progB els lims q0 q1 q2 q3 its)) /\ ∃ y, w' = ext w y) := by
 have cc := fun W h => cdGood_any W A B n m c d els lims q0 q1 q2 q3 (hc.1.below h) (hc.2.1.below h) hc.2.2.1 hc.2.2.2.1 hc.2.2.2.2
 have ci := fun W h => itList_any W I n2 c2 its (hi.1.below h) hi.2.1 hi.2.2.2
 have ck := fun W h => bsKnows_any W A B n m c d els q0 q1 q2 q3 I n2 c2 its (hc.1.below h) hc.2.2.1 (hi.1.below h) hi.2.1 hi.2.2.2
 have HV : Hid (progB els lims q0 q1 q2 q3 its = (codeB els lims q0 q1 q2 q3 && (itemsB its && knowB els its))) := rfl;clear hc hi;generalize codeB els lims q0 q1 q2 q3 = b0 at *;generalize itemsB its = b1 at *;generalize knowB els its = b2 at *
 cases b0
 ·
  go_enter Tryz.func165, Tryz.ntmps165;go_wp2_with (first | (go_at_call 51; ((with_reducible refine ex (cc _ bL) ?_); intro y)) | (go_at_call 212; ((with_reducible refine ex (ci _ bL) ?_); intro y)) | (go_at_call 213; ((with_reducible refine ex (ck _ bL) ?_); intro y)))
  go_ret;exact ⟨ret_bool (by rw [HV.out]; rfl), ext_ex bL⟩
 ·
  cases b1
  ·
   go_enter Tryz.func165, Tryz.ntmps165;go_wp2_with (first | (go_at_call 51; ((with_reducible refine ex (cc _ bL) ?_); intro y)) | (go_at_call 212; ((with_reducible refine ex (ci _ bL) ?_); intro y)) | (go_at_call 213; ((with_reducible refine ex (ck _ bL) ?_); intro y)))
   go_ret;exact ⟨ret_bool (by rw [HV.out]; rfl), ext_ex bL⟩
  ·
   go_enter Tryz.func165, Tryz.ntmps165;go_wp2_with (first | (go_at_call 51; ((with_reducible refine ex (cc _ bL) ?_); intro y)) | (go_at_call 212; ((with_reducible refine ex (ci _ bL) ?_); intro y)) | (go_at_call 213; ((with_reducible refine ex (ck _ bL) ?_); intro y)))
   go_ret;exact ⟨ret_bool (by rw [HV.out]; rfl), ext_ex bL⟩
theorem elGood_any (w : World) (A B : OA) (n m c d : Nat) (els : List El) (lims : List Int) (q0 q1 q2 q3 : Int) (hc : CodeR w A n B m els lims) (I : OA) (n2 c2 : Nat) (its : List It) (hi : ItsR w I n2 c2 its) (GA KA : OA) (gn gc kn kc : Nat) (gg kk : List (List Int)) (hm : RdMk w GA gn KA kn gg kk) :
  Calls Tryz.prog 115 #[.agg #[.slice A n c, .slice B m d, .int .i64 q0, .int .i64 q1, .int .i64 q2, .int .i64 q3], .slice I n2 c2, .agg #[.slice GA gn gc, .slice KA kn kc]] w (fun e w' => e = .returned (.bool (judgedB els lims q0 q1 q2 q3 its gg kk)) /\ ∃ y, w' = ext w y) := by
 have cb := fun W h => bsGood_any W A B n m c d els lims q0 q1 q2 q3 (hc.below h) I n2 c2 its (hi.below h)
 have cm := fun W h => mkGood_any W GA KA gn gc kn kc gg kk (hm.below h) n2
 have HV : Hid (judgedB els lims q0 q1 q2 q3 its gg kk = (progB els lims q0 q1 q2 q3 its && mksB gg kk n2)) := by unfold Hid judgedB; rw [hi.1.len]
 clear hc hi hm;generalize progB els lims q0 q1 q2 q3 its = b0 at *;generalize mksB gg kk n2 = b1 at *
 cases b0
 ·
  go_enter Tryz.func115, Tryz.ntmps115;go_wp2_with (first | (go_at_call 165; ((with_reducible refine (cb _ bL).mono ?_); rintro e w' ⟨rfl, y, rfl⟩)) | (go_at_call 166; ((with_reducible refine (cm _ bL).mono ?_); rintro e w' ⟨rfl, y, rfl⟩)))
  go_ret;exact ⟨ret_bool (by rw [HV.out]; rfl), ext_ex bL⟩
 ·
  go_enter Tryz.func115, Tryz.ntmps115;go_wp2_with (first | (go_at_call 165; ((with_reducible refine (cb _ bL).mono ?_); rintro e w' ⟨rfl, y, rfl⟩)) | (go_at_call 166; ((with_reducible refine (cm _ bL).mono ?_); rintro e w' ⟨rfl, y, rfl⟩)))
  go_ret;exact ⟨ret_bool (by rw [HV.out]; rfl), ext_ex bL⟩
theorem belong_any (w : World) (A B : OA) (n m c d : Nat) (els : List El) (lims : List Int) (q0 q1 q2 q3 : Int) (hc : CodeR w A n B m els lims) (I : OA) (n2 c2 : Nat) (its : List It) (hi : ItsR w I n2 c2 its) (GA KA : OA) (gn gc kn kc : Nat) (gg kk : List (List Int)) (hm : RdMk w GA gn KA kn gg kk) :
  Calls Tryz.prog 157 #[.agg #[.slice A n c, .slice B m d, .int .i64 q0, .int .i64 q1, .int .i64 q2, .int .i64 q3], .slice I n2 c2, .agg #[.slice GA gn gc, .slice KA kn kc]] w (fun e w' => e = .returned (.bool (knowB els its && mksB gg kk n2)) /\ ∃ y, w' = ext w y) := by
 have ck := fun W h => isKnown_any W A B n m c d els q0 q1 q2 q3 I n2 c2 its (hc.1.below h) hc.2.2.1 (hi.1.below h) hi.2.1 hi.2.2.2
 have cm := fun W h => areMarks_any W GA KA gn gc kn kc gg kk (hm.below h) n2
 have HV : Hid (true = true) := rfl;clear hc hi hm;generalize knowB els its = b0 at *;generalize mksB gg kk n2 = b1 at *
 cases b0
 ·
  go_enter Tryz.func157, Tryz.ntmps157;go_wp2_with (first | (go_at_call 205; ((with_reducible refine ex (ck _ bL) ?_); intro y)) | (go_at_call 206; ((with_reducible refine (cm _ bL).mono ?_); rintro e w' ⟨rfl, y, rfl⟩)))
  go_ret;exact ⟨ret_bool (by rfl), ext_ex bL⟩
 ·
  go_enter Tryz.func157, Tryz.ntmps157;go_wp2_with (first | (go_at_call 205; ((with_reducible refine ex (ck _ bL) ?_); intro y)) | (go_at_call 206; ((with_reducible refine (cm _ bL).mono ?_); rintro e w' ⟨rfl, y, rfl⟩)))
  go_ret;exact ⟨ret_bool (by rfl), ext_ex bL⟩
theorem areJudged_any (w : World) (A B : OA) (n m c d : Nat) (els : List El) (lims : List Int) (q0 q1 q2 q3 : Int) (hc : CodeR w A n B m els lims) (I : OA) (n2 c2 : Nat) (its : List It) (hi : ItsR w I n2 c2 its) (GA KA : OA) (gn gc kn kc : Nat) (gg kk : List (List Int)) (hm : RdMk w GA gn KA kn gg kk) :
  Calls Tryz.prog 108 #[.agg #[.slice A n c, .slice B m d, .int .i64 q0, .int .i64 q1, .int .i64 q2, .int .i64 q3], .slice I n2 c2, .agg #[.slice GA gn gc, .slice KA kn kc]] w (fun e w' => e = .returned (.bool (judgedB els lims q0 q1 q2 q3 its gg kk)) /\ ∃ y, w' = ext w y) := by
 have cc := fun W h => isCode_any W A B n m c d els lims q0 q1 q2 q3 (hc.1.below h) (hc.2.1.below h) hc.2.2.1 hc.2.2.2.1 hc.2.2.2.2
 have ci := fun W h => areItems_any W I n2 c2 its (hi.1.below h) hi.2.1 hi.2.2.2
 have ck := fun W h => belong_any W A B n m c d els lims q0 q1 q2 q3 (hc.below h) I n2 c2 its (hi.below h) GA KA gn gc kn kc gg kk (hm.below h)
 have HV : Hid (judgedB els lims q0 q1 q2 q3 its gg kk = (codeB els lims q0 q1 q2 q3 && (itemsB its && (knowB els its && mksB gg kk n2)))) := by unfold Hid judgedB progB; rw [hi.1.len]; simp only [Bool.and_assoc]
 clear hc hi hm;generalize codeB els lims q0 q1 q2 q3 = b0 at *;generalize itemsB its = b1 at *;generalize (knowB els its && mksB gg kk n2) = b2 at *
 cases b0
 ·
  go_enter Tryz.func108, Tryz.ntmps108;go_wp2_with (first | (go_at_call 44; ((with_reducible refine ex (cc _ bL) ?_); intro y)) | (go_at_call 156; ((with_reducible refine ex (ci _ bL) ?_); intro y)) | (go_at_call 157; ((with_reducible refine (ck _ bL).mono ?_); rintro e w' ⟨rfl, y, rfl⟩)))
  go_ret;exact ⟨ret_bool (by rw [HV.out]; rfl), ext_ex bL⟩
 ·
  cases b1
  ·
   go_enter Tryz.func108, Tryz.ntmps108;go_wp2_with (first | (go_at_call 44; ((with_reducible refine ex (cc _ bL) ?_); intro y)) | (go_at_call 156; ((with_reducible refine ex (ci _ bL) ?_); intro y)) | (go_at_call 157; ((with_reducible refine (ck _ bL).mono ?_); rintro e w' ⟨rfl, y, rfl⟩)))
   go_ret;exact ⟨ret_bool (by rw [HV.out]; rfl), ext_ex bL⟩
  ·
   go_enter Tryz.func108, Tryz.ntmps108;go_wp2_with (first | (go_at_call 44; ((with_reducible refine ex (cc _ bL) ?_); intro y)) | (go_at_call 156; ((with_reducible refine ex (ci _ bL) ?_); intro y)) | (go_at_call 157; ((with_reducible refine (ck _ bL).mono ?_); rintro e w' ⟨rfl, y, rfl⟩)))
   go_ret;exact ⟨ret_bool (by rw [HV.out]; rfl), ext_ex bL⟩
theorem sgGood_any (w : World) (A B : OA) (n m c d : Nat) (els : List El) (lims : List Int) (q0 q1 q2 q3 : Int) (hc : CodeR w A n B m els lims) (I : OA) (n2 c2 : Nat) (its : List It) (hi : ItsR w I n2 c2 its) (GA KA : OA) (gn gc kn kc : Nat) (gg kk : List (List Int)) (hm : RdMk w GA gn KA kn gg kk) (s1 s2 s3 : Int) :
  Calls Tryz.prog 66 #[.agg #[.slice A n c, .slice B m d, .int .i64 q0, .int .i64 q1, .int .i64 q2, .int .i64 q3], .agg #[.slice I n2 c2, .slice GA gn gc, .slice KA kn kc, .int .i64 s1, .int .i64 s2, .int .i64 s3]] w (fun e w' => e = .returned (.bool (perfB els lims q0 q1 q2 q3 its gg kk s1 s2 s3)) /\ ∃ y, w' = ext w y) := by
 have ck := fun W h => elGood_any W A B n m c d els lims q0 q1 q2 q3 (hc.below h) I n2 c2 its (hi.below h) GA KA gn gc kn kc gg kk (hm.below h)
 have cs := fun W => dcGood_any s1 s2 s3 W
 have HV : Hid (perfB els lims q0 q1 q2 q3 its gg kk s1 s2 s3 = (judgedB els lims q0 q1 q2 q3 its gg kk && slipB s1 s2 s3)) := rfl;clear hc hi hm;generalize judgedB els lims q0 q1 q2 q3 its gg kk = b0 at *;generalize slipB s1 s2 s3 = b1 at *
 cases b0
 ·
  go_enter Tryz.func66, Tryz.ntmps66;go_wp2_with (first | (go_at_call 115; ((with_reducible refine (ck _ bL).mono ?_); rintro e w' ⟨rfl, y, rfl⟩)) | (go_at_call 116; ((with_reducible refine ex (cs _) ?_); intro y)))
  go_ret;exact ⟨ret_bool (by rw [HV.out]; rfl), ext_ex bL⟩
 ·
  go_enter Tryz.func66, Tryz.ntmps66;go_wp2_with (first | (go_at_call 115; ((with_reducible refine (ck _ bL).mono ?_); rintro e w' ⟨rfl, y, rfl⟩)) | (go_at_call 116; ((with_reducible refine ex (cs _) ?_); intro y)))
  go_ret;exact ⟨ret_bool (by rw [HV.out]; rfl), ext_ex bL⟩
theorem isPerformance_any (w : World) (A B : OA) (n m c d : Nat) (els : List El) (lims : List Int) (q0 q1 q2 q3 : Int) (hc : CodeR w A n B m els lims) (I : OA) (n2 c2 : Nat) (its : List It) (hi : ItsR w I n2 c2 its) (GA KA : OA) (gn gc kn kc : Nat) (gg kk : List (List Int)) (hm : RdMk w GA gn KA kn gg kk) (s1 s2 s3 : Int) :
  Calls Tryz.prog 63 #[.agg #[.slice A n c, .slice B m d, .int .i64 q0, .int .i64 q1, .int .i64 q2, .int .i64 q3], .agg #[.slice I n2 c2, .slice GA gn gc, .slice KA kn kc, .int .i64 s1, .int .i64 s2, .int .i64 s3]] w (fun e w' => e = .returned (.bool (perfB els lims q0 q1 q2 q3 its gg kk s1 s2 s3)) /\ ∃ y, w' = ext w y) := by
 have ck := fun W h => areJudged_any W A B n m c d els lims q0 q1 q2 q3 (hc.below h) I n2 c2 its (hi.below h) GA KA gn gc kn kc gg kk (hm.below h)
 have cs := fun W => areSlips_any s1 s2 s3 W
 have HV : Hid (perfB els lims q0 q1 q2 q3 its gg kk s1 s2 s3 = (judgedB els lims q0 q1 q2 q3 its gg kk && slipB s1 s2 s3)) := rfl;clear hc hi hm;generalize judgedB els lims q0 q1 q2 q3 its gg kk = b0 at *;generalize slipB s1 s2 s3 = b1 at *
 cases b0
 ·
  go_enter Tryz.func63, Tryz.ntmps63;go_wp2_with (first | (go_at_call 108; ((with_reducible refine (ck _ bL).mono ?_); rintro e w' ⟨rfl, y, rfl⟩)) | (go_at_call 109; ((with_reducible refine ex (cs _) ?_); intro y)))
  go_ret;exact ⟨ret_bool (by rw [HV.out]; rfl), ext_ex bL⟩
 ·
  go_enter Tryz.func63, Tryz.ntmps63;go_wp2_with (first | (go_at_call 108; ((with_reducible refine (ck _ bL).mono ?_); rintro e w' ⟨rfl, y, rfl⟩)) | (go_at_call 109; ((with_reducible refine ex (cs _) ?_); intro y)))
  go_ret;exact ⟨ret_bool (by rw [HV.out]; rfl), ext_ex bL⟩
def RetAB (w : World) (e : Ending) (w' : World) : Prop := ∃ (b : Bool) (x : World), e = .returned (.bool b) /\ w' = ext w x
def RetAII (w : World) (e : Ending) (w' : World) : Prop := ∃ (i j : Int) (x : World), e = .returned (.tuple #[.int .i64 i, .int .i64 j]) /\ w' = ext w x
theorem RetAB.mk_ {W : World} {b : Bool} (h : Below w.heap.size w W) : RetAB w (.returned (.bool b)) W := by
 obtain ⟨x, rfl⟩ := ext_ex h;exact ⟨b, x, rfl, rfl⟩
theorem RetAII.mk_ {W : World} {i j : Int} (h : Below w.heap.size w W) : RetAII w (.returned (.tuple #[.int .i64 i, .int .i64 j])) W := by
 obtain ⟨x, rfl⟩ := ext_ex h;exact ⟨i, j, x, rfl, rfl⟩
theorem pgClean_any (w : World) (I : OA) (n c : Nat) (its : List It) (ha : ItsR w I n c its) :
  Calls Tryz.prog 258 #[.slice I n c] w (RetAB w) := by
 have Hl := Lib.hid ha.1.len;have Hs := Lib.hid ha.2.2.2;have hn := ha.2.1;go_enter Tryz.func258, Tryz.ntmps258;go_wp2
 go_loopw [4, 7] (fun _ i wr => ∃ (k : Nat) (y : World), k <= n /\ i = .int .i64 k /\ wr = ext w y) (fun _ i _ => n - (intOf i).toNat)
 case atStart => exact ⟨0, _, Om, rfl, ext_self _⟩
 case round =>
  obtain ⟨k, y, hk, rfl, rfl⟩ := hrel;by_cases hlt : k < n
  ·
   obtain ⟨b, off, rfl, hb, hc⟩ := ha.1.2 Om;obtain ⟨NA, nn, nc, MA, mn, mc, c0, c1, c2, hN, hM, hnc, hmc⟩ := hc k hlt;have hsm := (Hs.out _ (getD_mem zIt its k (by rw [Hl.out]; exact hlt))).2.1;have hmn : mn <= 1099511627776 := by rw [<- hM.len]; exact hsm
   generalize its[k]?.getD zIt = it at *;have cl := fun W h => l1All_any W MA mn mc it.2.1 0 0 (hM.below h) hmn
   clear hc hsm hnc hmc hN hM
   cases hq : allB it.2.1 0 0
   ·
    rw [hq] at cl;go_wp2_with ((go_at_call 99; (with_reducible refine ep (cl _ bL) ?_)))
    go_ret;exact RetAB.mk_ bL
   ·
    rw [hq] at cl;go_wp2_with ((go_at_call 99; (with_reducible refine ep (cl _ bL) ?_)))
    obtain ⟨y2, hy2⟩ := ext_ex (show Below w.heap.size w ((ext w y).alloc (.cells #[.slice NA nn nc, .slice MA mn mc, .bool it.2.2] 61)) from bL);go_roundw
    case rel => exact ⟨k + 1, y2, Om, by go_num, hy2⟩
    case measure => simp [intOf]; omega
  ·
   obtain rfl : k = n := Om;go_wp2;go_ret;exact RetAB.mk_ bL
theorem pgHalf_any (w : World) (I : OA) (n c : Nat) (its : List It) (ha : ItsR w I n c its) :
  Calls Tryz.prog 261 #[.slice I n c] w (RetAB w) := by
 have hn := ha.2.1;go_enter Tryz.func261, Tryz.ntmps261;go_wp2
 go_loopw [3, 4, 7] (fun _ _ i wr => ∃ (k : Nat) (y : World), k <= n /\ i = .int .i64 k /\ wr = ext w y) (fun _ _ i _ => n - (intOf i).toNat)
 case atStart => exact ⟨0, _, Om, rfl, ext_self _⟩
 case round =>
  obtain ⟨k, y, hk, rfl, rfl⟩ := hrel;by_cases hlt : k < n
  ·
   obtain ⟨b, off, rfl, hb, hc⟩ := ha.1.2 Om;obtain ⟨NA, nn, nc, MA, mn, mc, c0, c1, c2, hN, hM, hnc, hmc⟩ := hc k hlt;have e2 : IntKind.i64.wrap (2 * (k : Int)) = 2 * (k : Int) := IntWalk.i64_in _ Om;generalize its[k]?.getD zIt = it at *;obtain ⟨l, ml, lt⟩ := it;simp only at c2;clear hc hnc hmc hN hM;by_cases hd : (n : Int) <= 2 * (k : Int)
   ·
    cases lt
    ·
     go_wp2;go_ret;exact RetAB.mk_ bL
    ·
     go_wp2;obtain ⟨y2, hy2⟩ := ext_ex (show Below w.heap.size w ((ext w y).alloc (.cells #[.slice NA nn nc, .slice MA mn mc, .bool true] 61)) from bL);go_roundw
     case rel => exact ⟨k + 1, y2, Om, by go_num, hy2⟩
     case measure => simp [intOf]; omega
   ·
    cases lt
    ·
     go_wp2;obtain ⟨y2, hy2⟩ := ext_ex (show Below w.heap.size w ((ext w y).alloc (.cells #[.slice NA nn nc, .slice MA mn mc, .bool false] 61)) from bL);go_roundw
     case rel => exact ⟨k + 1, y2, Om, by go_num, hy2⟩
     case measure => simp [intOf]; omega
    ·
     go_wp2;go_ret;exact RetAB.mk_ bL
  ·
   obtain rfl : k = n := Om;go_wp2;go_ret;exact RetAB.mk_ bL
theorem pgCombined_any (w : World) (I : OA) (n c : Nat) (its : List It) (ha : ItsR w I n c its) :
  Calls Tryz.prog 259 #[.slice I n c] w (RetAII w) := by
 have hn := ha.2.1;go_enter Tryz.func259, Tryz.ntmps259;go_wp2
 go_loopw [4, 5, 7, 10] (fun t u _ i wr => ∃ (k : Nat) (a b : Int) (y : World), k <= n /\ i = .int .i64 k /\ t = .int .i64 a /\ u = .int .i64 b /\ wr = ext w y) (fun _ _ _ i _ => n - (intOf i).toNat)
 case atStart => exact ⟨0, 0, 0, _, Om, rfl, rfl, rfl, ext_self _⟩
 case round =>
  obtain ⟨k, a, bb, y, hk, rfl, rfl, rfl, rfl⟩ := hrel;by_cases hlt : k < n
  ·
   obtain ⟨b, off, rfl, hb, hc⟩ := ha.1.2 Om;obtain ⟨NA, nn, nc, MA, mn, mc, c0, c1, c2, hN, hM, hnc, hmc⟩ := hc k hlt;generalize (its[k]?.getD zIt).2.2 = lt at *;clear hc hnc hmc hN hM;obtain ⟨y2, hy2⟩ := ext_ex (show Below w.heap.size w ((ext w y).alloc (.cells #[.slice NA nn nc, .slice MA mn mc, .bool lt] 61)) from bL);have HY := Lib.hid hy2;clear hy2;by_cases h1 : (1 : Int) < nn
   ·
    by_cases h2 : (2 : Int) < nn
    ·
     go_wp2;go_roundw
     case rel => exact ⟨k + 1, _, _, y2, Om, by go_num, rfl, rfl, HY.out⟩
     case measure => simp [intOf]; omega
    ·
     go_wp2;go_roundw
     case rel => exact ⟨k + 1, _, _, y2, Om, by go_num, rfl, rfl, HY.out⟩
     case measure => simp [intOf]; omega
   ·
    have h2 : ¬ (2 : Int) < nn := Om;go_wp2;go_roundw
    case rel => exact ⟨k + 1, _, _, y2, Om, by go_num, rfl, rfl, HY.out⟩
    case measure => simp [intOf]; omega
  ·
   obtain rfl : k = n := Om;go_wp2;go_ret2;exact RetAII.mk_ bL
theorem pgTimes_any (w : World) (I : OA) (n c : Nat) (its : List It) (ha : ItsR w I n c its) (s : BA) :
  Calls Tryz.prog 267 #[.slice I n c, .string s] w (RetAII w) := by
 have hn := ha.2.1;have Hl := Lib.hid ha.1.len;have Hs := Lib.hid ha.2.2.2;go_enter Tryz.func267, Tryz.ntmps267;go_wp2
 go_loopw [6, 7, 9, 11, 14, 18, 19, 20, 21] (fun t u _ _ i _ _ _ _ wr => ∃ (k : Nat) (a b : Int) (y : World), k <= n /\ i = .int .i64 k /\ t = .int .i64 a /\ u = .int .i64 b /\ wr = ext w y) (fun _ _ _ _ i _ _ _ _ _ => n - (intOf i).toNat)
 case atStart => exact ⟨0, 0, 0, _, Om, rfl, rfl, rfl, ext_self _⟩
 case round =>
  obtain ⟨k, a, bb, y, hk, rfl, rfl, rfl, rfl⟩ := hrel;by_cases hlt : k < n
  ·
   obtain ⟨b, off, rfl, hb, hc⟩ := ha.1.2 Om;obtain ⟨NA, nn, nc, MA, mn, mc, c0, c1, c2, hN, hM, hnc, hmc⟩ := hc k hlt;have hnn : nn <= 1099511627776 := by rw [<- hN.len]; exact (Hs.out _ (getD_mem zIt its k (by rw [Hl.out]; exact hlt))).1
   generalize (its[k]?.getD zIt).2.2 = lt at *;generalize (its[k]?.getD zIt).1 = l at *;have HL := Lib.hid hN.len;clear hc hnc hmc hM;obtain ⟨y2, hy2⟩ := ext_ex (show Below w.heap.size w ((ext w y).alloc (.cells #[.slice NA nn nc, .slice MA mn mc, .bool lt] 61)) from bL);have HY := Lib.hid hy2;clear hy2;go_wp2
   go_loopw [6, 7, 11, 21] (fun t u _ i wz => ∃ (j : Nat) (a b : Int), j <= nn /\ i = .int .i64 j /\ t = .int .i64 a /\ u = .int .i64 b /\ wz = ((ext w y).alloc (.cells #[.slice NA nn nc, .slice MA mn mc, .bool lt] 61))) (fun _ _ _ i _ => nn - (intOf i).toNat)
   case atStart => exact ⟨0, a, bb, Om, rfl, rfl, rfl, rfl⟩
   case round =>
    obtain ⟨j, a2, b2, hj, rfl, rfl, rfl, rfl⟩ := hrel;by_cases hjl : j < nn
    ·
     obtain ⟨g, of2, rfl, hg, hc⟩ := hN.open_ Om;have hcj := hc j hjl;clear hc;generalize l[j]?.getD ByteArray.empty = x at *;by_cases hx : x.toList = s.toList
     ·
      have hxB : (x.toList == s.toList) = true := by rw [hx]; simp
      by_cases h1 : (1 : Int) < nn
      ·
       go_wp2;go_roundw
       case rel => exact ⟨j + 1, _, _, Om, by go_num, rfl, rfl, trivial⟩
       case measure => simp [intOf]; omega
      ·
       go_wp2;go_roundw
       case rel => exact ⟨j + 1, _, _, Om, by go_num, rfl, rfl, trivial⟩
       case measure => simp [intOf]; omega
     ·
      have hxB : (x.toList == s.toList) = false := beq_eq_false_iff_ne.2 hx;go_wp2;go_roundw
      case rel => exact ⟨j + 1, _, _, Om, by go_num, rfl, rfl, trivial⟩
      case measure => simp [intOf]; omega
    ·
     obtain rfl : j = nn := Om;go_wp2;go_roundw
     case rel => exact ⟨k + 1, _, _, y2, Om, by go_num, rfl, rfl, HY.out⟩
     case measure => simp [intOf]; omega
  ·
   obtain rfl : k = n := Om;go_wp2;go_ret2;exact RetAII.mk_ bL
end Go.Proofs.YtlfhhkgleapamaaGreatDoor
