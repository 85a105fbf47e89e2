/- Contracts: ReadProtocol, ProtocolHolds, Renumbered, ProtocolScore in the reference. Conditions: strings below 2^20 bytes. -/
import Derived.Test.YtmeaklaagglmeaaGreatDoorYSpB
import Derived.Test.YtmeaklaagglmeaaGreatDoorYHPar7s
set_option linter.unusedVariables false
set_option linter.unusedSimpArgs false
set_option maxRecDepth 100000
namespace Go.Proofs.YtmeaklaagglmeaaGreatDoor
open Go.RowKit
theorem ptLong_any (s : ByteArray) (w : World) (hs : s.size ≤ 1048576) : Calls Tryz.prog 50 #[.string s] w fun e w' => e = .returned (.bool (decide (s.size ≤ 4000))) ∧ w = w' := by
 by_cases h : s.size ≤ 4000
 ·
  have hI : (s.size : Int) ≤ 4000 := by omega
  rw [decide_eq_true h]
  go_enter Tryz.func50, Tryz.ntmps50
  go_wp2
  all_goals first | (exfalso; omega) | skip
  go_ret
  exact ⟨ret_bool (by simp [hI]), rfl⟩
 ·
  have hI : ¬ (s.size : Int) ≤ 4000 := by omega
  rw [decide_eq_false h]
  go_enter Tryz.func50, Tryz.ntmps50
  go_wp2
  all_goals first | (exfalso; omega) | skip
  go_ret
  exact ⟨ret_bool (by simp [hI]), rfl⟩
theorem ptRead_rd (w : World) (A B : Option Addr) (n m c d : Nat) (els : List El) (lims : List Int) (q0 q1 q2 q3 : Int) (hc : CodeR w A n B m els lims) (s : ByteArray) (hs : s.size ≤ 4000) :
  Calls Tryz.prog 51 #[.agg #[.slice A n c, .slice B m d, .int .i64 q0, .int .i64 q1, .int .i64 q2, .int .i64 q3], .string s] w (RetRd w (rdP els lims q0 q1 q2 q3 s)) := by
 have h := ptRead_any w A B n m c d els lims q0 q1 q2 q3 hc s hs
 unfold rdP
 rw [if_pos hs]
 exact h
set_option maxHeartbeats 4000000 in
theorem specProtocolHolds_any (w : World) (A B : Option Addr) (n m c d : Nat) (els : List El) (lims : List Int) (q0 q1 q2 q3 : Int) (hc : CodeR w A n B m els lims) (s : ByteArray) (hs : s.size ≤ 1048576) :
  Calls Tryz.prog 29 #[.agg #[.slice A n c, .slice B m d, .int .i64 q0, .int .i64 q1, .int .i64 q2, .int .i64 q3], .string s] w (RetBB w (rdP els lims q0 q1 q2 q3 s).isSome (holdsK els lims q0 q1 q2 q3 s)) := by
 have ci := fun W (h : Below w.heap.size w W) => cdGood_any W A B n m c d els lims q0 q1 q2 q3 (hc.below h).1 (hc.below h).2.1 hc.2.2.1 hc.2.2.2.1 hc.2.2.2.2
 have cl := fun W => ptLong_any s W hs
 have cr := fun (hz : s.size ≤ 4000) W (h : Below w.heap.size w W) => ptRead_rd W A B n m c d els lims q0 q1 q2 q3 (hc.below h) s hz
 clear hc
 have HK : Hid (holdsK els lims q0 q1 q2 q3 s = (codeB els lims q0 q1 q2 q3 && decide (s.size ≤ 4000))) := rfl
 cases hq : codeB els lims q0 q1 q2 q3
 ·
  have HE : Hid ((rdP els lims q0 q1 q2 q3 s).isSome = false) := by unfold Hid; rw [rd_code hq]; rfl
  rw [hq] at ci HK
  clear hq cr cl
  go_enter Tryz.func29, Tryz.ntmps29
  go_wp2_with ((go_at_call 49; ((with_reducible refine (ci _ (by with_reducible repeat first | exact Below.refl _ _ | assumption | refine bSetN ?_ (by omega) _ | refine bExt ?_ _ | refine bAlloc ?_ _ | refine bDrewN ?_ _ | refine bDrew ?_)).mono ?_); rintro e w' ⟨rfl, x1, rfl⟩)))
  go_ret2
  exact RetBB.mk_ (by rw [HE.out]) (by rw [HK.out]; rfl) (by with_reducible repeat first | exact Below.refl _ _ | assumption | refine bSetN ?_ (by omega) _ | refine bExt ?_ _ | refine bAlloc ?_ _ | refine bDrewN ?_ _ | refine bDrew ?_)
 ·
  rw [hq] at ci HK
  clear hq
  by_cases hl : ¬ s.size ≤ 4000
  ·
   have HE : Hid ((rdP els lims q0 q1 q2 q3 s).isSome = false) := by unfold Hid; rw [rd_long (by omega)]; rfl
   have HK2 : Hid (holdsK els lims q0 q1 q2 q3 s = false) := by unfold Hid; rw [HK.out, decide_eq_false hl]; simp
   rw [decide_eq_false hl] at cl
   clear cr HK hl hs
   go_enter Tryz.func29, Tryz.ntmps29
   go_wp2_with (first | (go_at_call 49; ((with_reducible refine (ci _ (by with_reducible repeat first | exact Below.refl _ _ | assumption | refine bSetN ?_ (by omega) _ | refine bExt ?_ _ | refine bAlloc ?_ _ | refine bDrewN ?_ _ | refine bDrew ?_)).mono ?_); rintro e w' ⟨rfl, x1, rfl⟩)) | (go_at_call 50; ((with_reducible refine (cl _).mono ?_); rintro e w' ⟨rfl, rfl⟩)))
   go_ret2
   exact RetBB.mk_ (by rw [HE.out]) (by rw [HK2.out]) (by with_reducible repeat first | exact Below.refl _ _ | assumption | refine bSetN ?_ (by omega) _ | refine bExt ?_ _ | refine bAlloc ?_ _ | refine bDrewN ?_ _ | refine bDrew ?_)
  have hl := Classical.not_not.1 hl
  have HK2 : Hid (holdsK els lims q0 q1 q2 q3 s = true) := by unfold Hid; rw [HK.out, decide_eq_true hl]; rfl
  have cr := cr hl
  rw [decide_eq_true hl] at cl
  clear HK hl hs
  generalize rdP els lims q0 q1 q2 q3 s = o at *
  unfold RetRd at cr
  go_enter Tryz.func29, Tryz.ntmps29
  go_wp2_with (first | (go_at_call 49; ((with_reducible refine (ci _ (by with_reducible repeat first | exact Below.refl _ _ | assumption | refine bSetN ?_ (by omega) _ | refine bExt ?_ _ | refine bAlloc ?_ _ | refine bDrewN ?_ _ | refine bDrew ?_)).mono ?_); rintro e w' ⟨rfl, x1, rfl⟩)) | (go_at_call 50; ((with_reducible refine (cl _).mono ?_); rintro e w' ⟨rfl, rfl⟩)) | (go_at_call 51; ((with_reducible refine (cr _ (by with_reducible repeat first | exact Below.refl _ _ | assumption | refine bSetN ?_ (by omega) _ | refine bExt ?_ _ | refine bAlloc ?_ _ | refine bDrewN ?_ _ | refine bDrew ?_)).mono ?_); rintro e w' ⟨I, n2, c2, GA, gn, gc, KA, kn, kc, x2, R, rfl, rfl, hF, hP⟩)))
  go_ret2
  exact RetBB.mk_ rfl (by rw [HK2.out]) (by with_reducible repeat first | exact Below.refl _ _ | assumption | refine bSetN ?_ (by omega) _ | refine bExt ?_ _ | refine bAlloc ?_ _ | refine bDrewN ?_ _ | refine bDrew ?_)
end Go.Proofs.YtmeaklaagglmeaaGreatDoor
