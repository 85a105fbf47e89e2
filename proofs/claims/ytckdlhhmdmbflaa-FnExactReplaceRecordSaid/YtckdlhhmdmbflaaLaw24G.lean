/- The law FnExactReplaceRecord returns true for every input. Conditions: none. -/
import Derived.Test.YtckdlhhmdmbflaaJoin
import Derived.Test.YtckdlhhmdmbflaaLiftStr
import Derived.Test.YtckdlhhmdmbflaaLawKit
import Derived.Deep.RegionHeld3
set_option linter.unusedVariables false
set_option linter.unusedSimpArgs false
namespace Go.Proofs.Ytckdlhhmdmbflaa
open Go.ChangeShapes Go.WideShapes Go.ChangeAt Go.RowKit
set_option maxHeartbeats 1000000 in
theorem law_ReplaceRecord (w : World) (L0 : Option Addr) (n0 cl0 : Nat) (l0 : List ByteArray) (ha0 : RdT w L0 n0 l0) (hm0 : n0 ≤ 9223372036854775807) (hsz0 : ∀ s ∈ l0, s.size ≤ 9223372036854775807) (i1 : Int) (s2 : ByteArray) (hy2 : s2.size ≤ 9223372036854775807) :
    Calls Try.prog 9 #[.slice L0 n0 cl0, .int .i64 i1, .string s2] w fun e w' => e = .returned (.bool true) ∧ Below w.heap.size w w' := by
  have hT0 : (n0 : Int) ≤ strTotal l0 := strTotal_ge ha0
  by_cases hs0 : (1048576 : Int) < s2.size
  · go_enter Try.func9, Try.ntmps9
    go_wp2_with fail
    go_ret
    exact ⟨rfl, by repeat (first | exact Below.refl _ _ | assumption | refine bExt ?_ _ | refine bAlloc ?_ _ | refine bDrewN ?_ _ | refine bDrew ?_ | refine bSet ?_ (by first | exact Nat.le_refl _ | omega | (simp; done) | (simp; omega)) _)⟩
  by_cases hs1 : (1048576 : Int) < strTotal l0
  · go_enter Try.func9, Try.ntmps9
    go_wp2_with fail
    refine (szStringS_any _ _ _ _ _ (by omega) (by omega) hm0 l0 (ha0) hsz0).mono ?_
    rintro e w1 ⟨rfl, rfl⟩
    rw [szV, if_pos (by omega)]
    go_wp2_with fail
    go_ret
    exact ⟨rfl, by repeat (first | exact Below.refl _ _ | assumption | refine bExt ?_ _ | refine bAlloc ?_ _ | refine bDrewN ?_ _ | refine bDrew ?_ | refine bSet ?_ (by first | exact Nat.le_refl _ | omega | (simp; done) | (simp; omega)) _)⟩
  have hz2 : s2.size ≤ 9223372036854775807 := by omega
  have hn0 : n0 ≤ 1099511627776 := by omega
  have hl0 : l0.length ≤ 1048576 := by have := ha0.len; omega
  have hr0 : (repL l0 i1 s2).length ≤ 1048576 := Nat.le_trans (repL_len _ _ _) hl0
  have hr1 : (repC l0 i1 s2).length ≤ 1048576 := Nat.le_trans (repC_len _ _ _) hl0
  have hd1 : ¬ (1048576 : Int) - strTotal l0 < 0 := by omega
  go_enter Try.func9, Try.ntmps9
  go_wp2_with fail
  refine (szStringS_any _ _ _ _ _ (by omega) (by omega) hm0 l0 (ha0) hsz0).mono ?_
  rintro e w1 ⟨rfl, rfl⟩
  rw [szV, if_neg (by omega)]
  go_wp2_with fail
  refine (toStringS_any _ _ _ _ _ (ha0.below (by repeat (first | exact Below.refl _ _ | assumption | refine bExt ?_ _ | refine bAlloc ?_ _ | refine bDrewN ?_ _ | refine bDrew ?_ | refine bSet ?_ (by first | exact Nat.le_refl _ | omega | (simp; done) | (simp; omega)) _))) (hn0)).mono ?_
  rintro e w1 ⟨A1, n_1, c1, x1, rfl, rfl, o1⟩
  go_wp2_with fail
  refine (specReplaceRecord_any _ _ _ _ _ _ _ (o1.rd.below (by repeat (first | exact Below.refl _ _ | assumption | refine bExt ?_ _ | refine bAlloc ?_ _ | refine bDrewN ?_ _ | refine bDrew ?_ | refine bSet ?_ (by first | exact Nat.le_refl _ | omega | (simp; done) | (simp; omega)) _))) (bdT o1 hl0) hsz0 hz2).mono ?_
  rintro e w1 ⟨At2, nt2, ct2, Ai2, ni2, ci2, xr2, rfl, rfl, ot2, oi2, hdj2g0g1, hdj2g1g0⟩
  go_wp2_with fail
  refine (toStringS_any _ _ _ _ _ (ha0.below (by repeat (first | exact Below.refl _ _ | assumption | refine bExt ?_ _ | refine bAlloc ?_ _ | refine bDrewN ?_ _ | refine bDrew ?_ | refine bSet ?_ (by first | exact Nat.le_refl _ | omega | (simp; done) | (simp; omega)) _))) (hn0)).mono ?_
  rintro e w1 ⟨A3, n_3, c3, x3, rfl, rfl, o3⟩
  go_wp2_with fail
  refine (implReplaceRecord_any _ _ _ _ _ _ _ (o3.rd.below (by repeat (first | exact Below.refl _ _ | assumption | refine bExt ?_ _ | refine bAlloc ?_ _ | refine bDrewN ?_ _ | refine bDrew ?_ | refine bSet ?_ (by first | exact Nat.le_refl _ | omega | (simp; done) | (simp; omega)) _))) (bdT o3 hl0) hsz0 hz2).mono ?_
  rintro e w1 ⟨At4, nt4, ct4, Ai4, ni4, ci4, xr4, rfl, rfl, ot4, oi4, hdj4g0g1, hdj4g1g0⟩
  go_wp2_with fail
  refine (eqStringS_any _ _ _ _ _ _ _ _ (ot4.rd.below (by repeat (first | exact Below.refl _ _ | assumption | refine bExt ?_ _ | refine bAlloc ?_ _ | refine bDrewN ?_ _ | refine bDrew ?_ | refine bSet ?_ (by first | exact Nat.le_refl _ | omega | (simp; done) | (simp; omega)) _))) (ot2.rd.below (by repeat (first | exact Below.refl _ _ | assumption | refine bExt ?_ _ | refine bAlloc ?_ _ | refine bDrewN ?_ _ | refine bDrew ?_ | refine bSet ?_ (by first | exact Nat.le_refl _ | omega | (simp; done) | (simp; omega)) _))) (bdT ot4 hr0)).mono ?_
  rintro e w1 ⟨rfl, x5, rfl⟩
  go_wp2_with fail
  refine (eqIntS_any _ _ _ _ _ _ _ _ _ (oi4.rd.below (by repeat (first | exact Below.refl _ _ | assumption | refine bExt ?_ _ | refine bAlloc ?_ _ | refine bDrewN ?_ _ | refine bDrew ?_ | refine bSet ?_ (by first | exact Nat.le_refl _ | omega | (simp; done) | (simp; omega)) _))) (oi2.rd.below (by repeat (first | exact Below.refl _ _ | assumption | refine bExt ?_ _ | refine bAlloc ?_ _ | refine bDrewN ?_ _ | refine bDrew ?_ | refine bSet ?_ (by first | exact Nat.le_refl _ | omega | (simp; done) | (simp; omega)) _))) (bdI oi4 hr1)).mono ?_
  rintro e w1 ⟨rfl, x6, rfl⟩
  go_wp2_with fail
  refine (toStringS_any _ _ _ _ _ (ha0.below (by repeat (first | exact Below.refl _ _ | assumption | refine bExt ?_ _ | refine bAlloc ?_ _ | refine bDrewN ?_ _ | refine bDrew ?_ | refine bSet ?_ (by first | exact Nat.le_refl _ | omega | (simp; done) | (simp; omega)) _))) (hn0)).mono ?_
  rintro e w1 ⟨A7, n_7, c7, x7, rfl, rfl, o7⟩
  go_wp2_with fail
  refine (eqStringS_any _ _ _ _ _ _ _ _ (o3.rd.below (by repeat (first | exact Below.refl _ _ | assumption | refine bExt ?_ _ | refine bAlloc ?_ _ | refine bDrewN ?_ _ | refine bDrew ?_ | refine bSet ?_ (by first | exact Nat.le_refl _ | omega | (simp; done) | (simp; omega)) _))) (o7.rd.below (by repeat (first | exact Below.refl _ _ | assumption | refine bExt ?_ _ | refine bAlloc ?_ _ | refine bDrewN ?_ _ | refine bDrew ?_ | refine bSet ?_ (by first | exact Nat.le_refl _ | omega | (simp; done) | (simp; omega)) _))) (bdT o3 hl0)).mono ?_
  rintro e w1 ⟨rfl, x8, rfl⟩
  have hb9 := bdT o3 hl0
  have hv9 : n_3 ≤ 1048576 := by have h1 := o3.len; have h2 := hl0; omega
  go_wp2_with fail
  refine (markStringS_any _ _ _ _ _ _ _ (o3.below (by repeat (first | exact Below.refl _ _ | assumption | refine bExt ?_ _ | refine bAlloc ?_ _ | refine bDrewN ?_ _ | refine bDrew ?_ | refine bSet ?_ (by first | exact Nat.le_refl _ | omega | (simp; done) | (simp; omega)) _))) (hb9) (by omega) (by omega)).mono ?_
  rintro e wm9 ⟨rfl, om9, hg9⟩
  have hB9 : Below w.heap.size w wm9 := below_grown (by repeat (first | exact Below.refl _ _ | assumption | refine bExt ?_ _ | refine bAlloc ?_ _ | refine bDrewN ?_ _ | refine bDrew ?_ | refine bSet ?_ (by first | exact Nat.le_refl _ | omega | (simp; done) | (simp; omega)) _)) hg9 (fun g hg => Nat.le_trans (base_le (by repeat (first | exact Below.refl _ _ | assumption | refine bExt ?_ _ | refine bAlloc ?_ _ | refine bDrewN ?_ _ | refine bDrew ?_ | refine bSet ?_ (by first | exact Nat.le_refl _ | omega | (simp; done) | (simp; omega)) _))) (o3.blk hg).1)
  have ok9_w0 := (ot2.below (by repeat (first | exact Below.refl _ _ | assumption | refine bExt ?_ _ | refine bAlloc ?_ _ | refine bDrewN ?_ _ | refine bDrew ?_ | refine bSet ?_ (by first | exact Nat.le_refl _ | omega | (simp; done) | (simp; omega)) _))).kept hg9 (ne_before (ot2.below (by repeat (first | exact Below.refl _ _ | assumption | refine bExt ?_ _ | refine bAlloc ?_ _ | refine bDrewN ?_ _ | refine bDrew ?_ | refine bSet ?_ (by first | exact Nat.le_refl _ | omega | (simp; done) | (simp; omega)) _))) o3)
  have ok9_w1 := (oi2.below (by repeat (first | exact Below.refl _ _ | assumption | refine bExt ?_ _ | refine bAlloc ?_ _ | refine bDrewN ?_ _ | refine bDrew ?_ | refine bSet ?_ (by first | exact Nat.le_refl _ | omega | (simp; done) | (simp; omega)) _))).kept hg9 (ne_before (oi2.below (by repeat (first | exact Below.refl _ _ | assumption | refine bExt ?_ _ | refine bAlloc ?_ _ | refine bDrewN ?_ _ | refine bDrew ?_ | refine bSet ?_ (by first | exact Nat.le_refl _ | omega | (simp; done) | (simp; omega)) _))) o3)
  have ok9_g0 := (ot4.below (by repeat (first | exact Below.refl _ _ | assumption | refine bExt ?_ _ | refine bAlloc ?_ _ | refine bDrewN ?_ _ | refine bDrew ?_ | refine bSet ?_ (by first | exact Nat.le_refl _ | omega | (simp; done) | (simp; omega)) _))).kept hg9 (ne_after (o3.below (by repeat (first | exact Below.refl _ _ | assumption | refine bExt ?_ _ | refine bAlloc ?_ _ | refine bDrewN ?_ _ | refine bDrew ?_ | refine bSet ?_ (by first | exact Nat.le_refl _ | omega | (simp; done) | (simp; omega)) _))) ot4)
  have ok9_g1 := (oi4.below (by repeat (first | exact Below.refl _ _ | assumption | refine bExt ?_ _ | refine bAlloc ?_ _ | refine bDrewN ?_ _ | refine bDrew ?_ | refine bSet ?_ (by first | exact Nat.le_refl _ | omega | (simp; done) | (simp; omega)) _))).kept hg9 (ne_after (o3.below (by repeat (first | exact Below.refl _ _ | assumption | refine bExt ?_ _ | refine bAlloc ?_ _ | refine bDrewN ?_ _ | refine bDrew ?_ | refine bSet ?_ (by first | exact Nat.le_refl _ | omega | (simp; done) | (simp; omega)) _))) oi4)
  obtain ⟨y9, rfl⟩ := ext_ex hB9
  clear hg9
  have hp10 : ¬ (1 + n_3 : Int) < 0 := by omega
  go_wp2_with fail
  refine (eqStringS_any _ _ _ _ _ _ _ _ (ok9_g0.rd.below (by repeat (first | exact Below.refl _ _ | assumption | refine bExt ?_ _ | refine bAlloc ?_ _ | refine bDrewN ?_ _ | refine bDrew ?_ | refine bSet ?_ (by first | exact Nat.le_refl _ | omega | (simp; done) | (simp; omega)) _))) (ok9_w0.rd.below (by repeat (first | exact Below.refl _ _ | assumption | refine bExt ?_ _ | refine bAlloc ?_ _ | refine bDrewN ?_ _ | refine bDrew ?_ | refine bSet ?_ (by first | exact Nat.le_refl _ | omega | (simp; done) | (simp; omega)) _))) (bdT ok9_g0 hr0)).mono ?_
  rintro e w1 ⟨rfl, x11, rfl⟩
  go_wp2_with fail
  refine (eqIntS_any _ _ _ _ _ _ _ _ _ (ok9_g1.rd.below (by repeat (first | exact Below.refl _ _ | assumption | refine bExt ?_ _ | refine bAlloc ?_ _ | refine bDrewN ?_ _ | refine bDrew ?_ | refine bSet ?_ (by first | exact Nat.le_refl _ | omega | (simp; done) | (simp; omega)) _))) (ok9_w1.rd.below (by repeat (first | exact Below.refl _ _ | assumption | refine bExt ?_ _ | refine bAlloc ?_ _ | refine bDrewN ?_ _ | refine bDrew ?_ | refine bSet ?_ (by first | exact Nat.le_refl _ | omega | (simp; done) | (simp; omega)) _))) (bdI ok9_g1 hr1)).mono ?_
  rintro e w1 ⟨rfl, x12, rfl⟩
  have hb13 := bdT ok9_g0 hr0
  have hv13 : nt4 ≤ 1048576 := by have h1 := ok9_g0.len; have h2 := hr0; omega
  go_wp2_with fail
  refine (markStringS_any _ _ _ _ _ _ _ (ok9_g0.below (by repeat (first | exact Below.refl _ _ | assumption | refine bExt ?_ _ | refine bAlloc ?_ _ | refine bDrewN ?_ _ | refine bDrew ?_ | refine bSet ?_ (by first | exact Nat.le_refl _ | omega | (simp; done) | (simp; omega)) _))) (hb13) (by omega) (by omega)).mono ?_
  rintro e wm13 ⟨rfl, om13, hg13⟩
  have hB13 : Below w.heap.size w wm13 := below_grown (by repeat (first | exact Below.refl _ _ | assumption | refine bExt ?_ _ | refine bAlloc ?_ _ | refine bDrewN ?_ _ | refine bDrew ?_ | refine bSet ?_ (by first | exact Nat.le_refl _ | omega | (simp; done) | (simp; omega)) _)) hg13 (fun g hg => Nat.le_trans (base_le (by repeat (first | exact Below.refl _ _ | assumption | refine bExt ?_ _ | refine bAlloc ?_ _ | refine bDrewN ?_ _ | refine bDrew ?_ | refine bSet ?_ (by first | exact Nat.le_refl _ | omega | (simp; done) | (simp; omega)) _))) (ot4.blk hg).1)
  have ok13_w0 := (ok9_w0.below (by repeat (first | exact Below.refl _ _ | assumption | refine bExt ?_ _ | refine bAlloc ?_ _ | refine bDrewN ?_ _ | refine bDrew ?_ | refine bSet ?_ (by first | exact Nat.le_refl _ | omega | (simp; done) | (simp; omega)) _))).kept hg13 (ne_before (ot2.below (by repeat (first | exact Below.refl _ _ | assumption | refine bExt ?_ _ | refine bAlloc ?_ _ | refine bDrewN ?_ _ | refine bDrew ?_ | refine bSet ?_ (by first | exact Nat.le_refl _ | omega | (simp; done) | (simp; omega)) _))) ot4)
  have ok13_w1 := (ok9_w1.below (by repeat (first | exact Below.refl _ _ | assumption | refine bExt ?_ _ | refine bAlloc ?_ _ | refine bDrewN ?_ _ | refine bDrew ?_ | refine bSet ?_ (by first | exact Nat.le_refl _ | omega | (simp; done) | (simp; omega)) _))).kept hg13 (ne_before (oi2.below (by repeat (first | exact Below.refl _ _ | assumption | refine bExt ?_ _ | refine bAlloc ?_ _ | refine bDrewN ?_ _ | refine bDrew ?_ | refine bSet ?_ (by first | exact Nat.le_refl _ | omega | (simp; done) | (simp; omega)) _))) ot4)
  have ok13_x0 := (om9.below (by repeat (first | exact Below.refl _ _ | assumption | refine bExt ?_ _ | refine bAlloc ?_ _ | refine bDrewN ?_ _ | refine bDrew ?_ | refine bSet ?_ (by first | exact Nat.le_refl _ | omega | (simp; done) | (simp; omega)) _))).kept hg13 (ne_before (o3.below (by repeat (first | exact Below.refl _ _ | assumption | refine bExt ?_ _ | refine bAlloc ?_ _ | refine bDrewN ?_ _ | refine bDrew ?_ | refine bSet ?_ (by first | exact Nat.le_refl _ | omega | (simp; done) | (simp; omega)) _))) ot4)
  have ok13_g1 := (ok9_g1.below (by repeat (first | exact Below.refl _ _ | assumption | refine bExt ?_ _ | refine bAlloc ?_ _ | refine bDrewN ?_ _ | refine bDrew ?_ | refine bSet ?_ (by first | exact Nat.le_refl _ | omega | (simp; done) | (simp; omega)) _))).kept hg13 (hdj4g1g0)
  obtain ⟨y13, rfl⟩ := ext_ex hB13
  clear hg13
  have hb14 := bdI ok13_g1 hr1
  have hv14 : ni4 ≤ 1048576 := by have h1 := ok13_g1.len; have h2 := hr1; omega
  go_wp2_with fail
  refine (markIntS_any _ _ _ _ _ _ _ (ok13_g1.below (by repeat (first | exact Below.refl _ _ | assumption | refine bExt ?_ _ | refine bAlloc ?_ _ | refine bDrewN ?_ _ | refine bDrew ?_ | refine bSet ?_ (by first | exact Nat.le_refl _ | omega | (simp; done) | (simp; omega)) _))) (hb14) (by omega) (by omega)).mono ?_
  rintro e wm14 ⟨rfl, om14, hg14⟩
  have hB14 : Below w.heap.size w wm14 := below_grown (by repeat (first | exact Below.refl _ _ | assumption | refine bExt ?_ _ | refine bAlloc ?_ _ | refine bDrewN ?_ _ | refine bDrew ?_ | refine bSet ?_ (by first | exact Nat.le_refl _ | omega | (simp; done) | (simp; omega)) _)) hg14 (fun g hg => Nat.le_trans (base_le (by repeat (first | exact Below.refl _ _ | assumption | refine bExt ?_ _ | refine bAlloc ?_ _ | refine bDrewN ?_ _ | refine bDrew ?_ | refine bSet ?_ (by first | exact Nat.le_refl _ | omega | (simp; done) | (simp; omega)) _))) (oi4.blk hg).1)
  have ok14_w0 := (ok13_w0.below (by repeat (first | exact Below.refl _ _ | assumption | refine bExt ?_ _ | refine bAlloc ?_ _ | refine bDrewN ?_ _ | refine bDrew ?_ | refine bSet ?_ (by first | exact Nat.le_refl _ | omega | (simp; done) | (simp; omega)) _))).kept hg14 (ne_before (ot2.below (by repeat (first | exact Below.refl _ _ | assumption | refine bExt ?_ _ | refine bAlloc ?_ _ | refine bDrewN ?_ _ | refine bDrew ?_ | refine bSet ?_ (by first | exact Nat.le_refl _ | omega | (simp; done) | (simp; omega)) _))) oi4)
  have ok14_w1 := (ok13_w1.below (by repeat (first | exact Below.refl _ _ | assumption | refine bExt ?_ _ | refine bAlloc ?_ _ | refine bDrewN ?_ _ | refine bDrew ?_ | refine bSet ?_ (by first | exact Nat.le_refl _ | omega | (simp; done) | (simp; omega)) _))).kept hg14 (ne_before (oi2.below (by repeat (first | exact Below.refl _ _ | assumption | refine bExt ?_ _ | refine bAlloc ?_ _ | refine bDrewN ?_ _ | refine bDrew ?_ | refine bSet ?_ (by first | exact Nat.le_refl _ | omega | (simp; done) | (simp; omega)) _))) oi4)
  have ok14_x0 := (ok13_x0.below (by repeat (first | exact Below.refl _ _ | assumption | refine bExt ?_ _ | refine bAlloc ?_ _ | refine bDrewN ?_ _ | refine bDrew ?_ | refine bSet ?_ (by first | exact Nat.le_refl _ | omega | (simp; done) | (simp; omega)) _))).kept hg14 (ne_before (o3.below (by repeat (first | exact Below.refl _ _ | assumption | refine bExt ?_ _ | refine bAlloc ?_ _ | refine bDrewN ?_ _ | refine bDrew ?_ | refine bSet ?_ (by first | exact Nat.le_refl _ | omega | (simp; done) | (simp; omega)) _))) oi4)
  have ok14_g0 := (om13.below (by repeat (first | exact Below.refl _ _ | assumption | refine bExt ?_ _ | refine bAlloc ?_ _ | refine bDrewN ?_ _ | refine bDrew ?_ | refine bSet ?_ (by first | exact Nat.le_refl _ | omega | (simp; done) | (simp; omega)) _))).kept hg14 (hdj4g0g1)
  obtain ⟨y14, rfl⟩ := ext_ex hB14
  clear hg14
  go_wp2_with fail
  refine (heldStringS_any _ _ _ _ _ _ (ok14_g0.rd.below (by repeat (first | exact Below.refl _ _ | assumption | refine bExt ?_ _ | refine bAlloc ?_ _ | refine bDrewN ?_ _ | refine bDrew ?_ | refine bSet ?_ (by first | exact Nat.le_refl _ | omega | (simp; done) | (simp; omega)) _))) (hb13) (by omega) (by omega) rfl).mono ?_
  rintro e w1 ⟨rfl, xh15, rfl⟩
  have hp16 : ¬ (1 + nt4 : Int) < 0 := by omega
  go_wp2_with fail
  refine (heldIntS_any _ _ _ _ _ _ (om14.rd.below (by repeat (first | exact Below.refl _ _ | assumption | refine bExt ?_ _ | refine bAlloc ?_ _ | refine bDrewN ?_ _ | refine bDrew ?_ | refine bSet ?_ (by first | exact Nat.le_refl _ | omega | (simp; done) | (simp; omega)) _))) (hb14) (by omega) (by omega) rfl).mono ?_
  rintro e w1 ⟨rfl, rfl⟩
  have hp18 : ¬ (1 + nt4 + ni4 : Int) < 0 := by omega
  go_wp2_with fail
  refine (toStringS_any _ _ _ _ _ (ha0.below (by repeat (first | exact Below.refl _ _ | assumption | refine bExt ?_ _ | refine bAlloc ?_ _ | refine bDrewN ?_ _ | refine bDrew ?_ | refine bSet ?_ (by first | exact Nat.le_refl _ | omega | (simp; done) | (simp; omega)) _))) (hn0)).mono ?_
  rintro e w1 ⟨A19, n_19, c19, x19, rfl, rfl, o19⟩
  go_wp2_with fail
  refine (implReplaceRecord_any _ _ _ _ _ _ _ (o19.rd.below (by repeat (first | exact Below.refl _ _ | assumption | refine bExt ?_ _ | refine bAlloc ?_ _ | refine bDrewN ?_ _ | refine bDrew ?_ | refine bSet ?_ (by first | exact Nat.le_refl _ | omega | (simp; done) | (simp; omega)) _))) (bdT o19 hl0) hsz0 hz2).mono ?_
  rintro e w1 ⟨At20, nt20, ct20, Ai20, ni20, ci20, xr20, rfl, rfl, ot20, oi20, hdj20g0g1, hdj20g1g0⟩
  go_wp2_with fail
  refine (eqStringS_any _ _ _ _ _ _ _ _ (ot20.rd.below (by repeat (first | exact Below.refl _ _ | assumption | refine bExt ?_ _ | refine bAlloc ?_ _ | refine bDrewN ?_ _ | refine bDrew ?_ | refine bSet ?_ (by first | exact Nat.le_refl _ | omega | (simp; done) | (simp; omega)) _))) (ok14_w0.rd.below (by repeat (first | exact Below.refl _ _ | assumption | refine bExt ?_ _ | refine bAlloc ?_ _ | refine bDrewN ?_ _ | refine bDrew ?_ | refine bSet ?_ (by first | exact Nat.le_refl _ | omega | (simp; done) | (simp; omega)) _))) (bdT ot20 hr0)).mono ?_
  rintro e w1 ⟨rfl, x21, rfl⟩
  go_wp2_with fail
  refine (eqIntS_any _ _ _ _ _ _ _ _ _ (oi20.rd.below (by repeat (first | exact Below.refl _ _ | assumption | refine bExt ?_ _ | refine bAlloc ?_ _ | refine bDrewN ?_ _ | refine bDrew ?_ | refine bSet ?_ (by first | exact Nat.le_refl _ | omega | (simp; done) | (simp; omega)) _))) (ok14_w1.rd.below (by repeat (first | exact Below.refl _ _ | assumption | refine bExt ?_ _ | refine bAlloc ?_ _ | refine bDrewN ?_ _ | refine bDrew ?_ | refine bSet ?_ (by first | exact Nat.le_refl _ | omega | (simp; done) | (simp; omega)) _))) (bdI oi20 hr1)).mono ?_
  rintro e w1 ⟨rfl, x22, rfl⟩
  go_wp2_with fail
  refine (heldStringS_any _ _ _ _ _ _ (ok14_g0.rd.below (by repeat (first | exact Below.refl _ _ | assumption | refine bExt ?_ _ | refine bAlloc ?_ _ | refine bDrewN ?_ _ | refine bDrew ?_ | refine bSet ?_ (by first | exact Nat.le_refl _ | omega | (simp; done) | (simp; omega)) _))) (hb13) (by omega) (by omega) rfl).mono ?_
  rintro e w1 ⟨rfl, xh23, rfl⟩
  have hp24 : ¬ (1 + nt4 : Int) < 0 := by omega
  go_wp2_with fail
  refine (heldIntS_any _ _ _ _ _ _ (om14.rd.below (by repeat (first | exact Below.refl _ _ | assumption | refine bExt ?_ _ | refine bAlloc ?_ _ | refine bDrewN ?_ _ | refine bDrew ?_ | refine bSet ?_ (by first | exact Nat.le_refl _ | omega | (simp; done) | (simp; omega)) _))) (hb14) (by omega) (by omega) rfl).mono ?_
  rintro e w1 ⟨rfl, rfl⟩
  have hp26 : ¬ (1 + nt4 + ni4 : Int) < 0 := by omega
  go_wp2_with fail
  go_ret
  exact ⟨rfl, by repeat (first | exact Below.refl _ _ | assumption | refine bExt ?_ _ | refine bAlloc ?_ _ | refine bDrewN ?_ _ | refine bDrew ?_ | refine bSet ?_ (by first | exact Nat.le_refl _ | omega | (simp; done) | (simp; omega)) _)⟩
set_option maxRecDepth 100000 in
theorem fnExactReplaceRecord_lifted (os : Os) (started : os.Started) (H : Type) (enc : TypeId × Value → H) :
    ReturnsInHanded {} Try.checked os 9 .any (Rows.fnExactReplaceRecordSpec.pre6 enc Try.prog Try.f9 Rows.fnExactReplaceRecordRow.domain false) (Rows.fnExactReplaceRecordSpec.post enc Try.prog Try.f9 false true false false) := by
  refine returnsInHanded_of_change (C := Try.checked) ownKnobNone started (by kernel_rfl) Try.func9
    (ChangeSpec.witness6 (enc := enc) (C := Try.checked) false ⟨#[], #[.slice none 0 0, .int .i64 0, .string .empty], []⟩ 8 (by kernel_rfl) (by kernel_rfl) (by kernel_rfl) (by kernel_rfl)) ?_
  intro W base args ds gs before hval0 hW hcnd _
  have hval : ∀ (j : Nat) t v, Try.f9.params[j]? = some t → args[j]? = some v → Value.okWide Try.prog W .any base t v := hval0
  have hW' := hW
  obtain ⟨p, q, hA0, hV, rfl, hfz, hnd⟩ := hW
  have hA : DataW.TrodAll enc Try.prog W 0 (fun _ => true) true Try.f9.params.toList args.toList ds p := hA0
  have hAk := hA
  rw [Try.params9] at hA hval
  obtain ⟨v0, vs0, d0, ds0, p0, q0, hargs, rfl, rfl, h0, r0⟩ := trodAll_cons hA
  obtain ⟨v1, vs1, d1, ds1, p1, q1, rfl, rfl, rfl, h1, r1⟩ := trodAll_cons r0
  obtain ⟨v2, vs2, d2, ds2, p2, q2, rfl, rfl, rfl, h2, r2⟩ := trodAll_cons r1
  obtain ⟨rfl, rfl, rfl⟩ := trodAll_nil r2
  obtain rfl : args = #[v0, v1, v2] := by cases args; simp_all
  obtain ⟨rfl, rfl⟩ := trodVars_none hV
  obtain ⟨A0, n0, c0, l0, rfl, g0, nc0, cm0, sz0⟩ := open_RdT (hval 0 35 v0 rfl rfl) h0
  obtain ⟨a1, rfl, rfl, rfl, w1⟩ := open_int Try.underlying3 (hval 1 3 v1 rfl rfl) h1
  have b1 := wfI w1
  obtain ⟨s2, rfl, rfl, rfl, w2⟩ := Go.ChangeMaps.open_string Try.underlying9 (hval 2 9 v2 rfl rfl) h2
  refine (law_ReplaceRecord _ _ _ _ _ g0 (by simp only [maxLen] at cm0; omega) sz0 _ _ (by have := w2; simp only [maxLen] at this; omega)).mono fun e W' hh => ?_
  obtain ⟨he, bel⟩ := hh
  subst he
  exact ⟨_, rfl, _, _, _, [], _, [], hW', trodAll_mk1 (shut_bool Try.underlying4 _), trodAll_below laidOutAll bel _ _ _ _ (by rw [tsOk, Try.params9]; kernel_rfl) hAk, rfl, bel.frame _, fun h => by cases h⟩
theorem fnExactReplaceRecord_holds : Rows.FnExactReplaceRecordSaid :=
  OpenClaim.holds_of_wide 9 Try.f9 rfl rfl rfl rfl rfl rfl rfl ⟨rfl, rfl, rfl, rfl, rfl⟩ rfl rfl rfl rfl rfl (by kernel_rfl) Try.func9 (by kernel_rfl)
    (of_decide_eq_true (by kernel_rfl)) (by unfold Func.isWrapper; first | (rw [if_pos (by decide +kernel)]; kernel_rfl) | (rw [if_neg (by decide +kernel)]; exact ⟨rfl, rfl⟩))
    (fun os started H enc _ => fnExactReplaceRecord_lifted os started H enc)
end Go.Proofs.Ytckdlhhmdmbflaa
