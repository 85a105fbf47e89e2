/- Two performances that read alike are told to be the same. Conditions: lengths below 2^40. -/
import Derived.Test.YtlfhhkgleapamaaGreatDoorQPar7s
import Derived.Deep.RegionHeld3
import Derived.Test.YtlfhhkgleapamaaGreatDoorQDr113
import Derived.Test.YtlfhhkgleapamaaGreatDoorQSegs
import Derived.Test.YtlfhhkgleapamaaGreatDoorQSp5s
import Derived.Test.YtlfhhkgleapamaaGreatDoorQReads
set_option linter.unusedVariables false
set_option linter.unusedSimpArgs false
set_option maxRecDepth 100000
set_option maxHeartbeats 16000000
namespace Go.Proofs.YtlfhhkgleapamaaGreatDoor
open Go.RowKit
theorem drewN_add (w : World) (a b : Nat) : (w.drewN a).drewN b = w.drewN (a + b) := by simp [World.drewN, Nat.add_assoc]
theorem sameIntsQ_any (w : World) (A B : OA) (n m c d : Nat) (l : List Int) (ha : RdI w A n l) (hb : RdI w B m l) (hn : n <= 1099511627776) :
  Calls Tryz.prog 24 #[.slice A n c, .slice B m d] w fun e w' => e = .returned (.bool true) /\ ∃ q, w' = w.drewN q := by
 obtain rfl : n = m := ha.len.symm.trans hb.len;go_enter Tryz.func24, Tryz.ntmps24;go_wp2
 go_loopw [5, 13] (fun _ i wr => ∃ k q, k <= n /\ i = .int .i64 (k : Nat) /\ wr = w.drewN q) (fun _ i _ => n - (intOf i).toNat)
 case atStart => exact ⟨0, 0, Nat.zero_le _, rfl, rfl⟩
 case round =>
  obtain ⟨k, q, hk, rfl, rfl⟩ := hrel;by_cases hlt : k < n
  ·
   obtain ⟨b1, o1, rfl, hb1, hc1⟩ := ha.open_ Om;obtain ⟨b2, o2, rfl, hb2, hc2⟩ := hb.open_ Om;have hq1 := hc1 k hlt;have hq2 := hc2 k hlt;clear hc1 hc2;generalize l.getD k 0 = sk at *;go_wp2
   go_quiet (fail)
   go_wp2;go_roundw
   case rel => exact ⟨k + 1, _, Om, by go_num, rfl⟩
   case measure => simp [intOf]; omega
  ·
   go_wp2;go_ret;exact ⟨rfl, _, rfl⟩
theorem pSameNamesQ_any (w : World) (A B : OA) (n m c d : Nat) (l : List ByteArray) (ha : RdT w A n l) (hb : RdT w B m l) (hn : n <= 1099511627776) :
  Calls Tryz.prog 96 #[.slice A n c, .slice B m d] w fun e w' => e = .returned (.bool true) /\ ∃ q, w' = w.drewN q := by
 obtain rfl : n = m := ha.len.symm.trans hb.len;go_enter Tryz.func96, Tryz.ntmps96;go_wp2
 go_loopw [5, 13] (fun _ i wr => ∃ k q, k <= n /\ i = .int .i64 (k : Nat) /\ wr = w.drewN q) (fun _ i _ => n - (intOf i).toNat)
 case atStart => exact ⟨0, 0, Nat.zero_le _, rfl, rfl⟩
 case round =>
  obtain ⟨k, q, hk, rfl, rfl⟩ := hrel;by_cases hlt : k < n
  ·
   obtain ⟨b1, o1, rfl, hb1, hc1⟩ := ha.open_ Om;obtain ⟨b2, o2, rfl, hb2, hc2⟩ := hb.open_ Om;have hq1 := hc1 k hlt;have hq2 := hc2 k hlt;clear hc1 hc2;generalize l[k]?.getD ByteArray.empty = sk at *;go_wp2
   go_quiet (fail)
   go_wp2;go_roundw
   case rel => exact ⟨k + 1, _, Om, by go_num, rfl⟩
   case measure => simp [intOf]; omega
  ·
   go_wp2;go_ret;exact ⟨rfl, _, rfl⟩
theorem sameListsQ_any (w : World) (A B : OA) (n m c d : Nat) (ll : List (List Int)) (ha : RdM w A n ll) (hb : RdM w B m ll) (hn : n <= 1099511627776) (hrows : ∀ j, j < n -> (ll[j]?.getD []).length <= 1099511627776) :
  Calls Tryz.prog 49 #[.slice A n c, .slice B m d] w fun e w' => e = .returned (.bool true) /\ ∃ q, w' = w.drewN q := by
 obtain rfl : n = m := ha.len.symm.trans hb.len;go_enter Tryz.func49, Tryz.ntmps49;go_wp2
 go_loopw [5, 13] (fun _ i wr => ∃ k, k <= n /\ i = .int .i64 (k : Nat) /\ ∃ q, Hid (wr = w.drewN q)) (fun _ i _ => n - (intOf i).toNat)
 case atStart => exact ⟨0, Nat.zero_le _, rfl, 0, Lib.hid rfl⟩
 case round =>
  obtain ⟨k, hk, rfl, q, hq⟩ := hrel;have hB : Below w.heap.size w wr := hq.out ▸ bDrewN (Below.refl _ _) q;by_cases hlt : k < n
  ·
   obtain ⟨b1, o1, rfl, hb1, hc1⟩ := ha.2 Om;obtain ⟨b2, o2, rfl, hb2, hc2⟩ := hb.2 Om;obtain ⟨B1, m1, d1, hk1, hr1, _, _⟩ := hc1 k hlt;obtain ⟨B2, m2, d2, hk2, hr2, _, _⟩ := hc2 k hlt;have hj1 := (hB.cell (p := ⟨b1, o1 + k, none⟩) hb1).trans hk1;have hj2 := (hB.cell (p := ⟨b2, o2 + k, none⟩) hb2).trans hk2;have hmb : m1 <= 1099511627776 := by have := hrows k hlt; rw [hr1.len] at this; exact this
   clear hc1 hc2 hk1 hk2;generalize ll[k]?.getD [] = lk at *;have cs := fun W (h : Below wr.heap.size wr W) => sameIntsQ_any W B1 B2 m1 m2 d1 d2 lk ((hr1.below hB).below h) ((hr2.below hB).below h) hmb
   clear hr1 hr2;go_wp2
   go_quiet ((go_at_call 24; exact Calls.quiet_of (cs _ bL)))
   go_wp2;go_roundw
   case rel => exact ⟨k + 1, Om, by go_num, _, Lib.hid (by rw [hq.out, drewN_add])⟩
   case measure => simp [intOf]; omega
  ·
   go_wp2;go_ret;exact ⟨rfl, _, hq.out⟩
theorem pSameItemsQ_any (w : World) (A B : OA) (n m c d : Nat) (its : List It) (ha : ItsR w A n c its) (hb : ItsR w B m d its) :
  Calls Tryz.prog 48 #[.slice A n c, .slice B m d] w fun e w' => e = .returned (.bool true) /\ ∃ q, w' = w.drewN q := by
 have Hl := Lib.hid ha.1.len;have Hs := Lib.hid ha.2.2.2;have hn := ha.2.1;obtain rfl : n = m := ha.1.len.symm.trans hb.1.len;go_enter Tryz.func48, Tryz.ntmps48;go_wp2
 go_loopw [5, 13] (fun _ i wr => ∃ k, k <= n /\ i = .int .i64 (k : Nat) /\ ∃ q, Hid (wr = w.drewN q)) (fun _ i _ => n - (intOf i).toNat)
 case atStart => exact ⟨0, Nat.zero_le _, rfl, 0, Lib.hid rfl⟩
 case round =>
  obtain ⟨k, hk, rfl, q, hq⟩ := hrel;have hB : Below w.heap.size w wr := hq.out ▸ bDrewN (Below.refl _ _) q;by_cases hlt : k < n
  ·
   obtain ⟨b1, o1, rfl, hb1, hc1⟩ := ha.1.2 Om;obtain ⟨b2, o2, rfl, hb2, hc2⟩ := hb.1.2 Om;obtain ⟨NA, nn, nc, MA, mn, mc, c0, c1, c2, hN, hM, _, _⟩ := hc1 k hlt;obtain ⟨NB, nn', nc', MB, mn', mc', d0, d1, d2, hN', hM', _, _⟩ := hc2 k hlt;have hsm := Hs.out _ (getD_mem zIt its k (by rw [Hl.out]; exact hlt));have hnn : nn <= 1099511627776 := by rw [<- hN.len]; exact hsm.1
   have hmn : mn <= 1099511627776 := by rw [<- hM.len]; exact hsm.2.1
   clear hc1 hc2 hsm;generalize its[k]?.getD zIt = it at *;have c0' := (hB.cell hb1).trans c0;have c1' := (hB.cell hb1).trans c1;have c2' := (hB.cell hb1).trans c2;have d0' := (hB.cell hb2).trans d0;have d1' := (hB.cell hb2).trans d1;have d2' := (hB.cell hb2).trans d2;have cN := fun W (h : Below wr.heap.size wr W) => pSameNamesQ_any W NA NB nn nn' nc nc' it.1 ((hN.below hB).below h) ((hN'.below hB).below h) hnn
   have cM := fun W (h : Below wr.heap.size wr W) => sameIntsQ_any W MA MB mn mn' mc mc' it.2.1 ((hM.below hB).below h) ((hM'.below hB).below h) hmn
   clear hN hM hN' hM' c0 c1 c2 d0 d1 d2;go_wp2
   go_quiet (first | (go_at_call 96; exact Calls.quiet_of (cN _ bL)) | (go_at_call 24; exact Calls.quiet_of (cM _ bL)))
   go_wp2;go_roundw
   case rel => exact ⟨k + 1, Om, by go_num, _, Lib.hid (by rw [hq.out, drewN_add])⟩
   case measure => simp [intOf]; omega
  ·
   go_wp2;go_ret;exact ⟨rfl, _, hq.out⟩
theorem pSame_any (w : World) (I GA KA I' GA' KA' : OA) (n2 c2 gn gc kn kc n2' c2' gn' gc' kn' kc' : Nat) (its : List It) (gg kk : List (List Int)) (s1 s2 s3 : Int) (hi : ItsR w I n2 c2 its) (hm : RdMk w GA gn KA kn gg kk) (hi' : ItsR w I' n2' c2' its) (hm' : RdMk w GA' gn' KA' kn' gg kk) :
  Calls Tryz.prog 14 #[.agg #[.slice I n2 c2, .slice GA gn gc, .slice KA kn kc, .int .i64 s1, .int .i64 s2, .int .i64 s3], .agg #[.slice I' n2' c2', .slice GA' gn' gc', .slice KA' kn' kc', .int .i64 s1, .int .i64 s2, .int .i64 s3]] w fun e w' => e = .returned (.bool true) /\ ∃ x, w' = ext w x := by
 have c1 := fun W h => pSameItemsQ_any W I I' n2 n2' c2 c2' its (hi.below h) (hi'.below h)
 have cg := fun W h => sameListsQ_any W GA GA' gn gn' gc gc' gg (hm.below h).1 (hm'.below h).1 hm.2.2.1 hm.2.2.2.2.1
 have ck := fun W h => sameListsQ_any W KA KA' kn kn' kc kc' kk (hm.below h).2.1 (hm'.below h).2.1 hm.2.2.2.1 hm.2.2.2.2.2
 clear hi hm hi' hm';go_enter Tryz.func14, Tryz.ntmps14;go_wp2_with (first | (go_at_call 48; ((with_reducible refine (c1 _ bL).mono ?_); rintro e w' ⟨rfl, q1, rfl⟩)) | (go_at_call 49; ((with_reducible refine (cg _ bL).mono ?_); rintro e w' ⟨rfl, q2, rfl⟩)) | (go_at_call 49; ((with_reducible refine (ck _ bL).mono ?_); rintro e w' ⟨rfl, q3, rfl⟩)))
 go_ret;exact ⟨rfl, ext_ex bL⟩
def RetAnyB (w : World) (e : Ending) (w' : World) : Prop := (∃ b, e = .returned (.bool b)) /\ w = w'
theorem big_any (w : World) (A B : OA) (n m c d : Nat) (hn : n <= 9223372036854775807) (hm : m <= 9223372036854775807) :
  Calls Tryz.prog 5 #[.slice A n c, .slice B m d] w (RetAnyB w) := by
 by_cases h1 : (1048576 : Int) < n
 ·
  go_enter Tryz.func5, Tryz.ntmps5;go_wp2;go_ret;exact ⟨⟨_, rfl⟩, rfl⟩
 ·
  go_enter Tryz.func5, Tryz.ntmps5;go_wp2;go_ret;exact ⟨⟨_, rfl⟩, rfl⟩
def RetRr (w : World) (o : Option PR) (e : Ending) (w' : World) : Prop := ∃ I n c GA gn gc KA kn kc, e = .returned (.tuple #[.agg #[.slice I n c, .slice GA gn gc, .slice KA kn kc, .int .i64 (o.getD zPR).2.2.1.1, .int .i64 (o.getD zPR).2.2.1.2.1, .int .i64 (o.getD zPR).2.2.1.2.2], .int .i64 (o.getD zPR).2.2.2.1, .int .i64 (o.getD zPR).2.2.2.2, .bool o.isSome]) /\ (∃ x, w' = ext w x) /\ ItsR w' I n c (o.getD zPR).1 /\ RdMk w' GA gn KA kn (o.getD zPR).2.1.1 (o.getD zPR).2.1.2
theorem rr_of {w w' : World} {e : Ending} {els : List El} {lims : List Int} {q0 q1 q2 q3 : Int} {s : ByteArray} {o : Option PR} (ho : rdP els lims q0 q1 q2 q3 s = o) (h : RetRd w o e w') : RetRr w o e w' := by
 obtain ⟨I, n, c, GA, gn, gc, KA, kn, kc, x, R, he, rfl, hF, hP⟩ := h;have hs := rdSm ho;unfold RetRr;generalize o.getD zPR = v at *;obtain ⟨its, ⟨gg, kk⟩, ⟨s1, s2, s3⟩, sk, fa⟩ := v;refine ⟨I, n, c, GA, gn, gc, KA, kn, kc, he, ⟨x, rfl⟩, ⟨hP.1.rd hF, by have h1 := hP.1.1; have h2 := hs.len; simp only at h1 h2; omega, hP.1.cap hF, hs.small⟩, RdMk.of_len (hP.2.1.rd hF) (hP.2.2.rd hF) (by have h1 := hP.2.1.1; have h2 := hs.gl; simp only at h1 h2; omega) (by have h1 := hP.2.2.1; have h2 := hs.kl; simp only at h1 h2; omega) hs.rows⟩
theorem bt {w W W' : World} (B : Below w.heap.size w W) (h : Below W.heap.size W W') : Below w.heap.size w W' := B.trans (h.mono B.size)
theorem blkl {w : World} {g ty : Nat} {x0 x1 x2 x3 x4 x5 : Value} (h : w.heap[g]? = some (.cells #[x0, x1, x2, x3, x4, x5] ty (0, 0))) : w.cell? ⟨g, 0, none⟩ = some x0 /\ w.cell? ⟨g, 1, none⟩ = some x1 /\ w.cell? ⟨g, 2, none⟩ = some x2 /\ w.cell? ⟨g, 3, none⟩ = some x3 /\ w.cell? ⟨g, 4, none⟩ = some x4 /\ w.cell? ⟨g, 5, none⟩ = some x5 /\ g < w.heap.size := by
 obtain ⟨⟨a0, a1, a2, a3, a4, a5⟩, _⟩ := blk6 h;exact ⟨a0, a1, a2, a3, a4, a5, (Array.getElem?_eq_some_iff.1 h).1⟩
theorem implRd_any (w : World) (A B : OA) (n m c d : Nat) (els : List El) (lims : List Int) (q0 q1 q2 q3 : Int) (hc : CodeR w A n B m els lims) (s : ByteArray) (hs : s.size <= 1048576) (hM : Mxl w) (hTab : Tab w) (hSg : Sgn w) (o : Option PR) (ho : rdP els lims q0 q1 q2 q3 s = o) :
  Calls Tryz.prog 9 #[.agg #[.slice A n c, .slice B m d, .int .i64 q0, .int .i64 q1, .int .i64 q2, .int .i64 q3], .string s] w (RetRr w o) :=
 (implReadProtocol_any w A B n m c d els lims q0 q1 q2 q3 hc s hs hM hTab hSg).mono fun e w' h => rr_of ho (ho ▸ h)
theorem specRd_any (w : World) (A B : OA) (n m c d : Nat) (els : List El) (lims : List Int) (q0 q1 q2 q3 : Int) (hc : CodeR w A n B m els lims) (s : ByteArray) (hs : s.size <= 1048576) (o : Option PR) (ho : rdP els lims q0 q1 q2 q3 s = o) :
  Calls Tryz.prog 16 #[.agg #[.slice A n c, .slice B m d, .int .i64 q0, .int .i64 q1, .int .i64 q2, .int .i64 q3], .string s] w (RetRr w o) :=
 (specReadProtocol_any w A B n m c d els lims q0 q1 q2 q3 hc s hs).mono fun e w' h => rr_of ho (ho ▸ h)
end Go.Proofs.YtlfhhkgleapamaaGreatDoor
