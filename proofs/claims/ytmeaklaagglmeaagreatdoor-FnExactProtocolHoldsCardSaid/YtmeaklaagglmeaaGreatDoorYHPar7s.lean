/- Contracts: ProtocolHolds, Renumbered, in the program. Conditions: strings below 2^20 bytes; the tables. -/
import Derived.Test.YtmeaklaagglmeaaGreatDoorYPar5s
set_option linter.unusedVariables false
set_option linter.unusedSimpArgs false
set_option maxRecDepth 100000
namespace Go.Proofs.YtmeaklaagglmeaaGreatDoor
open Go.RowKit
def holdsK (els : List El) (lims : List Int) (q0 q1 q2 q3 : Int) (s : ByteArray) : Bool := codeB els lims q0 q1 q2 q3 && decide (s.size ≤ 4000)
def RetBB (w : World) (a b : Bool) (e : Ending) (w' : World) : Prop := e = .returned (.tuple #[.bool a, .bool b]) ∧ ∃ x, w' = ext w x
theorem RetBB.mk_ {w W : World} {a b a' b' : Bool} (ha : a' = a) (hb : b' = b) (h : Below w.heap.size w W) : RetBB w a b (.returned (.tuple #[.bool a', .bool b'])) W := by
 subst ha hb; exact ⟨rfl, ext_ex h⟩
set_option maxHeartbeats 4000000 in
theorem implProtocolHolds_any (w : World) (A B : Option Addr) (n m c d : Nat) (els : List El) (lims : List Int) (q0 q1 q2 q3 : Int) (hc : CodeR w A n B m els lims) (s : ByteArray) (hs : s.size ≤ 1048576) (hM : Mxl w) (hTab : Tab w) (hSg : Sgn w) :
  Calls Tryz.prog 26 #[.agg #[.slice A n c, .slice B m d, .int .i64 q0, .int .i64 q1, .int .i64 q2, .int .i64 q3], .string s] w (RetBB w (rdP els lims q0 q1 q2 q3 s).isSome (holdsK els lims q0 q1 q2 q3 s)) := by
 have ci := fun W (h : Below w.heap.size w W) => isCode_any W A B n m c d els lims q0 q1 q2 q3 (hc.below h).1 (hc.below h).2.1 hc.2.2.1 hc.2.2.2.1 hc.2.2.2.2
 have cr := fun W (h : Below w.heap.size w W) => readProtocol_any W A B n m c d els lims q0 q1 q2 q3 (hc.below h) s hs (hM.below h) (hTab.below h) (hSg.below h)
 simp only [rd_both] at cr
 clear hM hTab hSg hc
 have HK : Hid (holdsK els lims q0 q1 q2 q3 s = (codeB els lims q0 q1 q2 q3 && decide (s.size ≤ 4000))) := rfl
 cases hq : codeB els lims q0 q1 q2 q3
 ·
  have HE : Hid ((rdP els lims q0 q1 q2 q3 s).isSome = false) := by unfold Hid; rw [rd_code hq]; rfl
  rw [hq] at ci HK
  clear hq cr
  go_enter Tryz.func26, Tryz.ntmps26
  go_wp2_with ((go_at_call 54; ((with_reducible refine (ci _ (by with_reducible repeat first | exact Below.refl _ _ | assumption | refine bSetN ?_ (by omega) _ | refine bExt ?_ _ | refine bAlloc ?_ _ | refine bDrewN ?_ _ | refine bDrew ?_)).mono ?_); rintro e w' ⟨rfl, x1, rfl⟩)))
  go_ret2
  exact RetBB.mk_ (by rw [HE.out]) (by rw [HK.out]; rfl) (by with_reducible repeat first | exact Below.refl _ _ | assumption | refine bSetN ?_ (by omega) _ | refine bExt ?_ _ | refine bAlloc ?_ _ | refine bDrewN ?_ _ | refine bDrew ?_)
 ·
  by_cases hl : 4000 < s.size
  ·
   have HE : Hid ((rdP els lims q0 q1 q2 q3 s).isSome = false) := by unfold Hid; rw [rd_long hl]; rfl
   have hlI : (4000 : Int) < s.size := by omega
   have HK2 : Hid (holdsK els lims q0 q1 q2 q3 s = false) := by unfold Hid; rw [HK.out, decide_eq_false (by omega)]; simp
   rw [hq] at ci
   clear hq cr HK
   go_enter Tryz.func26, Tryz.ntmps26
   go_wp2_with ((go_at_call 54; ((with_reducible refine (ci _ (by with_reducible repeat first | exact Below.refl _ _ | assumption | refine bSetN ?_ (by omega) _ | refine bExt ?_ _ | refine bAlloc ?_ _ | refine bDrewN ?_ _ | refine bDrew ?_)).mono ?_); rintro e w' ⟨rfl, x1, rfl⟩)))
   go_ret2
   exact RetBB.mk_ (by rw [HE.out]) (by rw [HK2.out]) (by with_reducible repeat first | exact Below.refl _ _ | assumption | refine bSetN ?_ (by omega) _ | refine bExt ?_ _ | refine bAlloc ?_ _ | refine bDrewN ?_ _ | refine bDrew ?_)
  ·
   have hlI : ¬ (4000 : Int) < s.size := by omega
   have HK2 : Hid (holdsK els lims q0 q1 q2 q3 s = true) := by unfold Hid; rw [HK.out, hq, decide_eq_true (by omega)]; rfl
   rw [hq] at ci
   clear hq HK hl
   generalize rdP els lims q0 q1 q2 q3 s = o at *
   unfold RetRd at cr
   go_enter Tryz.func26, Tryz.ntmps26
   go_wp2_with (first | (go_at_call 54; ((with_reducible refine (ci _ (by with_reducible repeat first | exact Below.refl _ _ | assumption | refine bSetN ?_ (by omega) _ | refine bExt ?_ _ | refine bAlloc ?_ _ | refine bDrewN ?_ _ | refine bDrew ?_)).mono ?_); rintro e w' ⟨rfl, x1, rfl⟩)) | (go_at_call 55; ((with_reducible refine (cr _ (by with_reducible repeat first | exact Below.refl _ _ | assumption | refine bSetN ?_ (by omega) _ | refine bExt ?_ _ | refine bAlloc ?_ _ | refine bDrewN ?_ _ | refine bDrew ?_)).mono ?_); rintro e w' ⟨I, n2, c2, GA, gn, gc, KA, kn, kc, x2, R, rfl, rfl, hF, hP⟩)))
   all_goals first | (exfalso; omega) | skip
   go_ret2
   exact RetBB.mk_ rfl (by rw [HK2.out]) (by with_reducible repeat first | exact Below.refl _ _ | assumption | refine bSetN ?_ (by omega) _ | refine bExt ?_ _ | refine bAlloc ?_ _ | refine bDrewN ?_ _ | refine bDrew ?_)
end Go.Proofs.YtmeaklaagglmeaaGreatDoor
namespace Go.Proofs.YtmeaklaagglmeaaGreatDoor
open Go.RowKit
end Go.Proofs.YtmeaklaagglmeaaGreatDoor
namespace Go.Proofs.YtmeaklaagglmeaaGreatDoor
open Go.RowKit
end Go.Proofs.YtmeaklaagglmeaaGreatDoor
