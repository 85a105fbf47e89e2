/- Contracts: ProtocolHolds, Renumbered, in the program. Conditions: strings below 2^20 bytes; the tables. -/
import Derived.Test.YtmeaklaagglmeaaGreatDoorXPar5s
import Derived.Test.YtmeaklaagglmeaaGreatDoorXSpB
set_option linter.unusedVariables false
set_option linter.unusedSimpArgs false
set_option maxRecDepth 100000
namespace Go.Proofs.YtmeaklaagglmeaaGreatDoor
open Go.RowKit
end Go.Proofs.YtmeaklaagglmeaaGreatDoor
namespace Go.Proofs.YtmeaklaagglmeaaGreatDoor
open Go.RowKit
theorem rd_good {els : List El} {lims : List Int} {q0 q1 q2 q3 : Int} {s : ByteArray} {v : PR} (h : rdP els lims q0 q1 q2 q3 s = some v) : proB els lims q0 q1 q2 q3 v.1 v.2.1.1 v.2.1.2 v.2.2.1.1 v.2.2.1.2.1 v.2.2.1.2.2 v.2.2.2.1 v.2.2.2.2 = true := by
 unfold rdP at h
 split at h
 ·
  have h2 := (accP_iff.1 h).2
  simp only [accB, Bool.and_eq_true] at h2
  exact h2.1
 ·
  cases h
end Go.Proofs.YtmeaklaagglmeaaGreatDoor
namespace Go.Proofs.YtmeaklaagglmeaaGreatDoor
open Go.RowKit
end Go.Proofs.YtmeaklaagglmeaaGreatDoor
namespace Go.Proofs.YtmeaklaagglmeaaGreatDoor
open Go.RowKit
theorem ptLong_any (s : ByteArray) (w : World) (hs : s.size ≤ 1048576) : Calls Tryz.prog 50 #[.string s] w fun e w' => e = .returned (.bool (decide (s.size ≤ 4000))) ∧ w = w' := by
 by_cases h : s.size ≤ 4000
 ·
  have hI : (s.size : Int) ≤ 4000 := by omega
  rw [decide_eq_true h]
  go_enter Tryz.func50, Tryz.ntmps50
  go_wp2
  all_goals first | (exfalso; omega) | skip
  go_ret
  exact ⟨ret_bool (by simp [hI]), rfl⟩
 ·
  have hI : ¬ (s.size : Int) ≤ 4000 := by omega
  rw [decide_eq_false h]
  go_enter Tryz.func50, Tryz.ntmps50
  go_wp2
  all_goals first | (exfalso; omega) | skip
  go_ret
  exact ⟨ret_bool (by simp [hI]), rfl⟩
theorem ptRead_rd (w : World) (A B : Option Addr) (n m c d : Nat) (els : List El) (lims : List Int) (q0 q1 q2 q3 : Int) (hc : CodeR w A n B m els lims) (s : ByteArray) (hs : s.size ≤ 4000) :
  Calls Tryz.prog 51 #[.agg #[.slice A n c, .slice B m d, .int .i64 q0, .int .i64 q1, .int .i64 q2, .int .i64 q3], .string s] w (RetRd w (rdP els lims q0 q1 q2 q3 s)) := by
 have h := ptRead_any w A B n m c d els lims q0 q1 q2 q3 hc s hs
 unfold rdP
 rw [if_pos hs]
 exact h
set_option maxHeartbeats 4000000 in
theorem specReadProtocol_any (w : World) (A B : Option Addr) (n m c d : Nat) (els : List El) (lims : List Int) (q0 q1 q2 q3 : Int) (hc : CodeR w A n B m els lims) (s : ByteArray) (hs : s.size ≤ 1048576) :
  Calls Tryz.prog 11 #[.agg #[.slice A n c, .slice B m d, .int .i64 q0, .int .i64 q1, .int .i64 q2, .int .i64 q3], .string s] w (RetRd w (rdP els lims q0 q1 q2 q3 s)) := by
 have ci := fun W (h : Below w.heap.size w W) => cdGood_any W A B n m c d els lims q0 q1 q2 q3 (hc.below h).1 (hc.below h).2.1 hc.2.2.1 hc.2.2.2.1 hc.2.2.2.2
 have cl := fun W => ptLong_any s W hs
 have cr := fun (hz : s.size ≤ 4000) W (h : Below w.heap.size w W) => ptRead_rd W A B n m c d els lims q0 q1 q2 q3 (hc.below h) s hz
 clear hc
 cases hq : codeB els lims q0 q1 q2 q3
 ·
  have HE := Lib.hid (rd_code (s := s) hq)
  rw [hq] at ci
  clear hq cr cl
  go_enter Tryz.func11, Tryz.ntmps11
  go_wp2_with ((go_at_call 49; ((with_reducible refine (ci _ bqq).mono ?_); rintro e w' ⟨rfl, x1, rfl⟩)))
  have hBR : Below ((w.alloc (.cells #[.slice A n c, .slice B m d, .int .i64 q0, .int .i64 q1, .int .i64 q2, .int .i64 q3] 39)).alloc (.cells #[.slice none 0 0, .slice none 0 0, .slice none 0 0, .int .i64 0, .int .i64 0, .int .i64 0] 34)).heap.size ((w.alloc (.cells #[.slice A n c, .slice B m d, .int .i64 q0, .int .i64 q1, .int .i64 q2, .int .i64 q3] 39)).alloc (.cells #[.slice none 0 0, .slice none 0 0, .slice none 0 0, .int .i64 0, .int .i64 0, .int .i64 0] 34)) (ext ((w.alloc (.cells #[.slice A n c, .slice B m d, .int .i64 q0, .int .i64 q1, .int .i64 q2, .int .i64 q3] 39)).alloc (.cells #[.slice none 0 0, .slice none 0 0, .slice none 0 0, .int .i64 0, .int .i64 0, .int .i64 0] 34)) x1) := by with_reducible repeat first | exact Below.refl _ _ | assumption | refine bSetN ?_ (by omega) _ | refine bExt ?_ _ | refine bAlloc ?_ _ | refine bDrewN ?_ _ | refine bDrew ?_
  have z0 := (hBR.cell (p := ⟨w.heap.size + 1, 0, none⟩) (by simp [go_sem])).trans (show _ = some (.slice none 0 0) from by simp [go_sem])
  have z1 := (hBR.cell (p := ⟨w.heap.size + 1, 1, none⟩) (by simp [go_sem])).trans (show _ = some (.slice none 0 0) from by simp [go_sem])
  have z2 := (hBR.cell (p := ⟨w.heap.size + 1, 2, none⟩) (by simp [go_sem])).trans (show _ = some (.slice none 0 0) from by simp [go_sem])
  have z3 := (hBR.cell (p := ⟨w.heap.size + 1, 3, none⟩) (by simp [go_sem])).trans (show _ = some (.int .i64 0) from by simp [go_sem])
  have z4 := (hBR.cell (p := ⟨w.heap.size + 1, 4, none⟩) (by simp [go_sem])).trans (show _ = some (.int .i64 0) from by simp [go_sem])
  have z5 := (hBR.cell (p := ⟨w.heap.size + 1, 5, none⟩) (by simp [go_sem])).trans (show _ = some (.int .i64 0) from by simp [go_sem])
  have f0 := (hBR.frozen (p := ⟨w.heap.size + 1, 0, none⟩) (by simp [go_sem])).trans (show _ = false from by simp [go_sem])
  have f1 := (hBR.frozen (p := ⟨w.heap.size + 1, 1, none⟩) (by simp [go_sem])).trans (show _ = false from by simp [go_sem])
  have f2 := (hBR.frozen (p := ⟨w.heap.size + 1, 2, none⟩) (by simp [go_sem])).trans (show _ = false from by simp [go_sem])
  have f3 := (hBR.frozen (p := ⟨w.heap.size + 1, 3, none⟩) (by simp [go_sem])).trans (show _ = false from by simp [go_sem])
  have f4 := (hBR.frozen (p := ⟨w.heap.size + 1, 4, none⟩) (by simp [go_sem])).trans (show _ = false from by simp [go_sem])
  have f5 := (hBR.frozen (p := ⟨w.heap.size + 1, 5, none⟩) (by simp [go_sem])).trans (show _ = false from by simp [go_sem])
  refine bodyPost_ret (v := .tuple #[.agg #[.slice none 0 0, .slice none 0 0, .slice none 0 0, .int .i64 0, .int .i64 0, .int .i64 0], .int .i64 0, .int .i64 0, .bool false]) (by simp [results, Tryz.results11, go_sem, z0, z1, z2, z3, z4, z5]) rfl ?_
  exact RetRd.none_ HE.out bqq
 ·
  rw [hq] at ci
  clear hq
  by_cases hl : ¬ s.size ≤ 4000
  ·
   have HE := Lib.hid (rd_long (els := els) (lims := lims) (q0 := q0) (q1 := q1) (q2 := q2) (q3 := q3) (s := s) (by omega))
   rw [decide_eq_false hl] at cl
   clear cr hl hs
   go_enter Tryz.func11, Tryz.ntmps11
   go_wp2_with (first | (go_at_call 49; ((with_reducible refine (ci _ bqq).mono ?_); rintro e w' ⟨rfl, x1, rfl⟩)) | (go_at_call 50; ((with_reducible refine (cl _).mono ?_); rintro e w' ⟨rfl, rfl⟩)))
   have hBR : Below ((w.alloc (.cells #[.slice A n c, .slice B m d, .int .i64 q0, .int .i64 q1, .int .i64 q2, .int .i64 q3] 39)).alloc (.cells #[.slice none 0 0, .slice none 0 0, .slice none 0 0, .int .i64 0, .int .i64 0, .int .i64 0] 34)).heap.size ((w.alloc (.cells #[.slice A n c, .slice B m d, .int .i64 q0, .int .i64 q1, .int .i64 q2, .int .i64 q3] 39)).alloc (.cells #[.slice none 0 0, .slice none 0 0, .slice none 0 0, .int .i64 0, .int .i64 0, .int .i64 0] 34)) (ext ((w.alloc (.cells #[.slice A n c, .slice B m d, .int .i64 q0, .int .i64 q1, .int .i64 q2, .int .i64 q3] 39)).alloc (.cells #[.slice none 0 0, .slice none 0 0, .slice none 0 0, .int .i64 0, .int .i64 0, .int .i64 0] 34)) x1) := by with_reducible repeat first | exact Below.refl _ _ | assumption | refine bSetN ?_ (by omega) _ | refine bExt ?_ _ | refine bAlloc ?_ _ | refine bDrewN ?_ _ | refine bDrew ?_
   have z0 := (hBR.cell (p := ⟨w.heap.size + 1, 0, none⟩) (by simp [go_sem])).trans (show _ = some (.slice none 0 0) from by simp [go_sem])
   have z1 := (hBR.cell (p := ⟨w.heap.size + 1, 1, none⟩) (by simp [go_sem])).trans (show _ = some (.slice none 0 0) from by simp [go_sem])
   have z2 := (hBR.cell (p := ⟨w.heap.size + 1, 2, none⟩) (by simp [go_sem])).trans (show _ = some (.slice none 0 0) from by simp [go_sem])
   have z3 := (hBR.cell (p := ⟨w.heap.size + 1, 3, none⟩) (by simp [go_sem])).trans (show _ = some (.int .i64 0) from by simp [go_sem])
   have z4 := (hBR.cell (p := ⟨w.heap.size + 1, 4, none⟩) (by simp [go_sem])).trans (show _ = some (.int .i64 0) from by simp [go_sem])
   have z5 := (hBR.cell (p := ⟨w.heap.size + 1, 5, none⟩) (by simp [go_sem])).trans (show _ = some (.int .i64 0) from by simp [go_sem])
   have f0 := (hBR.frozen (p := ⟨w.heap.size + 1, 0, none⟩) (by simp [go_sem])).trans (show _ = false from by simp [go_sem])
   have f1 := (hBR.frozen (p := ⟨w.heap.size + 1, 1, none⟩) (by simp [go_sem])).trans (show _ = false from by simp [go_sem])
   have f2 := (hBR.frozen (p := ⟨w.heap.size + 1, 2, none⟩) (by simp [go_sem])).trans (show _ = false from by simp [go_sem])
   have f3 := (hBR.frozen (p := ⟨w.heap.size + 1, 3, none⟩) (by simp [go_sem])).trans (show _ = false from by simp [go_sem])
   have f4 := (hBR.frozen (p := ⟨w.heap.size + 1, 4, none⟩) (by simp [go_sem])).trans (show _ = false from by simp [go_sem])
   have f5 := (hBR.frozen (p := ⟨w.heap.size + 1, 5, none⟩) (by simp [go_sem])).trans (show _ = false from by simp [go_sem])
   refine bodyPost_ret (v := .tuple #[.agg #[.slice none 0 0, .slice none 0 0, .slice none 0 0, .int .i64 0, .int .i64 0, .int .i64 0], .int .i64 0, .int .i64 0, .bool false]) (by simp [results, Tryz.results11, go_sem, z0, z1, z2, z3, z4, z5]) rfl ?_
   exact RetRd.none_ HE.out bqq
  have hl := Classical.not_not.1 hl
  have cr := cr hl
  rw [decide_eq_true hl] at cl
  clear hl hs
  generalize rdP els lims q0 q1 q2 q3 s = o at *
  unfold RetRd at cr
  go_enter Tryz.func11, Tryz.ntmps11
  go_wp2_with (first | (go_at_call 49; ((with_reducible refine (ci _ bqq).mono ?_); rintro e w' ⟨rfl, x1, rfl⟩)) | (go_at_call 50; ((with_reducible refine (cl _).mono ?_); rintro e w' ⟨rfl, rfl⟩)) | (go_at_call 51; ((with_reducible refine (cr _ bqq).mono ?_); rintro e w' ⟨I, n2, c2, GA, gn, gc, KA, kn, kc, x2, R, rfl, rfl, hF, hP⟩)))
  have hBR : Below ((w.alloc (.cells #[.slice A n c, .slice B m d, .int .i64 q0, .int .i64 q1, .int .i64 q2, .int .i64 q3] 39)).alloc (.cells #[.slice none 0 0, .slice none 0 0, .slice none 0 0, .int .i64 0, .int .i64 0, .int .i64 0] 34)).heap.size ((w.alloc (.cells #[.slice A n c, .slice B m d, .int .i64 q0, .int .i64 q1, .int .i64 q2, .int .i64 q3] 39)).alloc (.cells #[.slice none 0 0, .slice none 0 0, .slice none 0 0, .int .i64 0, .int .i64 0, .int .i64 0] 34)) (ext (ext ((w.alloc (.cells #[.slice A n c, .slice B m d, .int .i64 q0, .int .i64 q1, .int .i64 q2, .int .i64 q3] 39)).alloc (.cells #[.slice none 0 0, .slice none 0 0, .slice none 0 0, .int .i64 0, .int .i64 0, .int .i64 0] 34)) x1) x2) := by with_reducible repeat first | exact Below.refl _ _ | assumption | refine bSetN ?_ (by omega) _ | refine bExt ?_ _ | refine bAlloc ?_ _ | refine bDrewN ?_ _ | refine bDrew ?_
  have z0 := (hBR.cell (p := ⟨w.heap.size + 1, 0, none⟩) (by simp [go_sem])).trans (show _ = some (.slice none 0 0) from by simp [go_sem])
  have z1 := (hBR.cell (p := ⟨w.heap.size + 1, 1, none⟩) (by simp [go_sem])).trans (show _ = some (.slice none 0 0) from by simp [go_sem])
  have z2 := (hBR.cell (p := ⟨w.heap.size + 1, 2, none⟩) (by simp [go_sem])).trans (show _ = some (.slice none 0 0) from by simp [go_sem])
  have z3 := (hBR.cell (p := ⟨w.heap.size + 1, 3, none⟩) (by simp [go_sem])).trans (show _ = some (.int .i64 0) from by simp [go_sem])
  have z4 := (hBR.cell (p := ⟨w.heap.size + 1, 4, none⟩) (by simp [go_sem])).trans (show _ = some (.int .i64 0) from by simp [go_sem])
  have z5 := (hBR.cell (p := ⟨w.heap.size + 1, 5, none⟩) (by simp [go_sem])).trans (show _ = some (.int .i64 0) from by simp [go_sem])
  have f0 := (hBR.frozen (p := ⟨w.heap.size + 1, 0, none⟩) (by simp [go_sem])).trans (show _ = false from by simp [go_sem])
  have f1 := (hBR.frozen (p := ⟨w.heap.size + 1, 1, none⟩) (by simp [go_sem])).trans (show _ = false from by simp [go_sem])
  have f2 := (hBR.frozen (p := ⟨w.heap.size + 1, 2, none⟩) (by simp [go_sem])).trans (show _ = false from by simp [go_sem])
  have f3 := (hBR.frozen (p := ⟨w.heap.size + 1, 3, none⟩) (by simp [go_sem])).trans (show _ = false from by simp [go_sem])
  have f4 := (hBR.frozen (p := ⟨w.heap.size + 1, 4, none⟩) (by simp [go_sem])).trans (show _ = false from by simp [go_sem])
  have f5 := (hBR.frozen (p := ⟨w.heap.size + 1, 5, none⟩) (by simp [go_sem])).trans (show _ = false from by simp [go_sem])
  have h1 := szOf (show Below ((w.alloc (.cells #[.slice A n c, .slice B m d, .int .i64 q0, .int .i64 q1, .int .i64 q2, .int .i64 q3] 39)).alloc (.cells #[.slice none 0 0, .slice none 0 0, .slice none 0 0, .int .i64 0, .int .i64 0, .int .i64 0] 34)).heap.size ((w.alloc (.cells #[.slice A n c, .slice B m d, .int .i64 q0, .int .i64 q1, .int .i64 q2, .int .i64 q3] 39)).alloc (.cells #[.slice none 0 0, .slice none 0 0, .slice none 0 0, .int .i64 0, .int .i64 0, .int .i64 0] 34)) (ext ((w.alloc (.cells #[.slice A n c, .slice B m d, .int .i64 q0, .int .i64 q1, .int .i64 q2, .int .i64 q3] 39)).alloc (.cells #[.slice none 0 0, .slice none 0 0, .slice none 0 0, .int .i64 0, .int .i64 0, .int .i64 0] 34)) x1) from bqq)
  simp only [show ∀ (W : World) (o : Obj), (W.alloc o).heap.size = W.heap.size + 1 from fun W o => by simp [go_sem]] at h1
  have hl9 : w.heap.size + 1 < (ext ((w.alloc (.cells #[.slice A n c, .slice B m d, .int .i64 q0, .int .i64 q1, .int .i64 q2, .int .i64 q3] 39)).alloc (.cells #[.slice none 0 0, .slice none 0 0, .slice none 0 0, .int .i64 0, .int .i64 0, .int .i64 0] 34)) x1).heap.size := by omega
  have hbw : Below w.heap.size w (ext (ext ((w.alloc (.cells #[.slice A n c, .slice B m d, .int .i64 q0, .int .i64 q1, .int .i64 q2, .int .i64 q3] 39)).alloc (.cells #[.slice none 0 0, .slice none 0 0, .slice none 0 0, .int .i64 0, .int .i64 0, .int .i64 0] 34)) x1) x2) := by with_reducible repeat first | exact Below.refl _ _ | assumption | refine bSetN ?_ (by omega) _ | refine bExt ?_ _ | refine bAlloc ?_ _ | refine bDrewN ?_ _ | refine bDrew ?_
  clear hBR
  have hbs : w.heap.size ≤ (ext ((w.alloc (.cells #[.slice A n c, .slice B m d, .int .i64 q0, .int .i64 q1, .int .i64 q2, .int .i64 q3] 39)).alloc (.cells #[.slice none 0 0, .slice none 0 0, .slice none 0 0, .int .i64 0, .int .i64 0, .int .i64 0] 34)) x1).heap.size := by omega
  generalize (ext ((w.alloc (.cells #[.slice A n c, .slice B m d, .int .i64 q0, .int .i64 q1, .int .i64 q2, .int .i64 q3] 39)).alloc (.cells #[.slice none 0 0, .slice none 0 0, .slice none 0 0, .int .i64 0, .int .i64 0, .int .i64 0] 34)) x1).heap.size = bq at hF hl9 hbs
  generalize hWB : (ext (ext ((w.alloc (.cells #[.slice A n c, .slice B m d, .int .i64 q0, .int .i64 q1, .int .i64 q2, .int .i64 q3] 39)).alloc (.cells #[.slice none 0 0, .slice none 0 0, .slice none 0 0, .int .i64 0, .int .i64 0, .int .i64 0] 34)) x1) x2) = WB at *
  refine bodyPost_ret (v := .tuple #[.agg #[.slice I n2 c2, .slice GA gn gc, .slice KA kn kc, .int .i64 (o.getD zPR).2.2.1.1, .int .i64 (o.getD zPR).2.2.1.2.1, .int .i64 (o.getD zPR).2.2.1.2.2], .int .i64 (o.getD zPR).2.2.2.1, .int .i64 (o.getD zPR).2.2.2.2, .bool o.isSome]) (by simp [results, Tryz.results11, go_sem, z0, z1, z2, z3, z4, z5]) rfl ?_
  have G9 := (((((hF.setLow (k := 0) (v := .slice I n2 c2) hl9).setLow (k := 1) (v := .slice GA gn gc) hl9).setLow (k := 2) (v := .slice KA kn kc) hl9).setLow (k := 3) (v := .int .i64 (o.getD zPR).2.2.1.1) hl9).setLow (k := 4) (v := .int .i64 (o.getD zPR).2.2.1.2.1) hl9).setLow (k := 5) (v := .int .i64 (o.getD zPR).2.2.1.2.2) hl9
  obtain ⟨z, hz⟩ := ext_ex (show Below w.heap.size w ((((((WB.setCell ⟨w.heap.size + 1, 0, none⟩ (.slice I n2 c2)).setCell ⟨w.heap.size + 1, 1, none⟩ (.slice GA gn gc)).setCell ⟨w.heap.size + 1, 2, none⟩ (.slice KA kn kc)).setCell ⟨w.heap.size + 1, 3, none⟩ (.int .i64 (o.getD zPR).2.2.1.1)).setCell ⟨w.heap.size + 1, 4, none⟩ (.int .i64 (o.getD zPR).2.2.1.2.1)).setCell ⟨w.heap.size + 1, 5, none⟩ (.int .i64 (o.getD zPR).2.2.1.2.2)) from bqq)
  have hsz : WB.heap.size = ((((((WB.setCell ⟨w.heap.size + 1, 0, none⟩ (.slice I n2 c2)).setCell ⟨w.heap.size + 1, 1, none⟩ (.slice GA gn gc)).setCell ⟨w.heap.size + 1, 2, none⟩ (.slice KA kn kc)).setCell ⟨w.heap.size + 1, 3, none⟩ (.int .i64 (o.getD zPR).2.2.1.1)).setCell ⟨w.heap.size + 1, 4, none⟩ (.int .i64 (o.getD zPR).2.2.1.2.1)).setCell ⟨w.heap.size + 1, 5, none⟩ (.int .i64 (o.getD zPR).2.2.1.2.2)).heap.size := by simp [World.setCell]
  have G8 := G9.mono hbs (Nat.le_of_eq hsz)
  rw [hz] at G8
  exact ⟨I, n2, c2, GA, gn, gc, KA, kn, kc, z, R, rfl, hz, G8, hP⟩
end Go.Proofs.YtmeaklaagglmeaaGreatDoor
