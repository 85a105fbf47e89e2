/- eqMarks, markMarks; Marks that came in, opened. Conditions: lengths below 2^40. -/
import Derived.Test.YtmeaklaagglmeaaGreatDoorXMarks3
set_option linter.unusedVariables false
set_option linter.unusedSimpArgs false
set_option maxRecDepth 100000
namespace Go.Proofs.YtmeaklaagglmeaaGreatDoor
open Go.ChangeShapes Go.WideShapes Go.ChangeAt Go.RowKit
set_option maxHeartbeats 400000 in
theorem eqMarks_any (w : World) (A B A' B' : Option Addr) (n m c d n' m' c' d' : Nat) (gg kk : List (List Int)) (ha : RdM w A n gg) (hb : RdM w B m kk) (ha' : RdM w A' n' gg) (hb' : RdM w B' m' kk) (hn : n ≤ 1099511627776) (hm : m ≤ 1099511627776) (hrg : ∀ j, j < n → (gg[j]?.getD []).length ≤ 1099511627776) (hrk : ∀ j, j < m → (kk[j]?.getD []).length ≤ 1099511627776) :
  Calls Tryz.prog 57 #[.agg #[.slice A n c, .slice B m d], .agg #[.slice A' n' c', .slice B' m' d']] w fun e w' => e = .returned (.bool true) ∧ ∃ x, w' = ext w x := by
 go_enter Tryz.func57, Tryz.ntmps57
 go_wp2_with (first | (go_at_call 117; ((with_reducible refine (eqIntSS_any _ _ _ _ _ _ _ _ (ha.below bl) (ha'.below bl) hn hrg).mono ?_); rintro e w' ⟨rfl, x, rfl⟩)) | (go_at_call 117; ((with_reducible refine (eqIntSS_any _ _ _ _ _ _ _ _ (hb.below bl) (hb'.below bl) hm hrk).mono ?_); rintro e w' ⟨rfl, y, rfl⟩)))
 go_ret
 exact ⟨rfl, ext_ex bl⟩
end Go.Proofs.YtmeaklaagglmeaaGreatDoor
