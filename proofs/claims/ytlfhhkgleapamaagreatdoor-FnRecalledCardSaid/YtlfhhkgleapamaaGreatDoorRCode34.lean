/- Contracts on valid codes of points. Conditions: lengths below 2^40, strings below 2^63 bytes. -/
import Derived.Test.YtlfhhkgleapamaaGreatDoorRStrs0
import Derived.Deep.RegionHeld3
import Derived.Deep.RegionWith
set_option linter.unusedVariables false
set_option linter.unusedSimpArgs false
set_option maxRecDepth 100000
set_option maxHeartbeats 16000000
namespace Go.Proofs.YtlfhhkgleapamaaGreatDoor
open Go.RowKit
theorem tw {P : Program} {ops : Array Oper} {Q : Exit → Act → World → Prop} {md : Region.Mode} {S : World → Prop} (i : Nat) {oi : Oper} {v : Value} {fuel : Nat} {listed : Array Bool} {a a' : Act} {w : World} (h : wpAnyH P md ops Q S fuel (listed.setIfInBounds i true) a' w)
    (hi : ops[i]? = some oi := by simp only [List.getElem?_toArray, List.getElem?_cons_succ, List.getElem?_cons_zero]; rfl) (hs : Region.noSelect ops = true := by kernel_rfl) (hf : Region.free md ops listed i = true := by kernel_rfl) (hr : (Region.ready md ops listed).contains i = true := by kernel_rfl)
    (hw : Region.wanted oi (yielded ops a.tmps) = true := by kernel_rfl) (hy : ∀ w, S w → (execOp a.eval oi).run P w = .ok (.value v) w := by first | (intro w' hSw; (try dsimp only at hSw); go_simp; done) | (intro w' hSw; (try dsimp only at hSw); go_simp; with_reducible rfl))
    (hQ : ∀ c a w, Q (.panic c) (a.put oi.dst v) w → Q (.panic c) a w := by exact fun _ _ _ h => h) (hS : S w := by assumption) (ha : a.put oi.dst v = a' := by (try simp only [Act.put, List.setIfInBounds_toArray, List.set_cons_zero, List.set_cons_succ]); rfl) : wpAnyH P md ops Q S (fuel + 1) listed a w :=
  wpAnyH_take hi hs hf hr hQ (Or.inl ⟨hw, hy⟩) hS (ha ▸ h)
theorem tu {P : Program} {ops : Array Oper} {Q : Exit → Act → World → Prop} {md : Region.Mode} {S : World → Prop} (i : Nat) {oi : Oper} {fuel : Nat} {listed : Array Bool} {a a' : Act} {w : World} (h : wpAnyH P md ops Q S fuel (listed.setIfInBounds i true) a' w)
    (hi : ops[i]? = some oi := by simp only [List.getElem?_toArray, List.getElem?_cons_succ, List.getElem?_cons_zero]; rfl) (hs : Region.noSelect ops = true := by kernel_rfl) (hf : Region.free md ops listed i = true := by kernel_rfl) (hr : (Region.ready md ops listed).contains i = true := by kernel_rfl)
    (hw : Region.wanted oi (yielded ops a.tmps) = false := by kernel_rfl)
    (hQ : ∀ c a w, Q (.panic c) (a.put oi.dst undef) w → Q (.panic c) a w := by exact fun _ _ _ h => h) (hS : S w := by assumption) (ha : a.put oi.dst undef = a' := by (try simp only [Act.put, List.setIfInBounds_toArray, List.set_cons_zero, List.set_cons_succ]); rfl) : wpAnyH P md ops Q S (fuel + 1) listed a w :=
  wpAnyH_take hi hs hf hr hQ (Or.inr ⟨hw, rfl⟩) hS (ha ▸ h)
def okElAt (l : List El) (i : Nat) : Bool := elB (l[i]?.getD zEl) && (decide (i = 0) || Op.bytesLess (l[i - 1]?.getD zEl).1.toList (l[i]?.getD zEl).1.toList)
def elsB (l : List El) : Bool := (List.range l.length).all (okElAt l)
def codeB (els : List El) (lims : List Int) (rep bon keep fall : Int) : Bool := elsB els && (inB els.length 1 24 && (decide (lims.length = 5) && (allB lims 0 9 && (inB rep 1 3 && (inB bon 0 20 && (inB keep 50 100 && inB fall 0 500))))))
theorem elsB_no {l : List El} {k : Nat} (hk : k < l.length) (h : okElAt l k = false) : elsB l = false := by
 unfold elsB;rw [Bool.eq_false_iff]; intro hh;have := List.all_eq_true.1 hh k (by simpa using hk);rw [h] at this; cases this
theorem elsB_end {l : List El} (h : ∀ i, i < l.length -> Hid (okElAt l i = true)) : elsB l = true := List.all_eq_true.2 fun i hi => h i (by simpa using hi)
theorem okEl_more {l : List El} {k : Nat} (hok : ∀ j, j < k -> Hid (okElAt l j = true)) (h : okElAt l k = true) : ∀ j, j < k + 1 -> Hid (okElAt l j = true) := fun j hj => by
 by_cases e : j = k
 ·
  subst e; exact h
 ·
  exact hok j Om
theorem blkE {w : World} {g ty : Nat} {x0 x1 x2 x3 : Value} (h : w.heap[g]? = some (.cells #[x0, x1, x2, x3] ty (0, 0))) : (w.cell? ⟨g, 0, none⟩ = some x0 /\ w.cell? ⟨g, 1, none⟩ = some x1 /\ w.cell? ⟨g, 2, none⟩ = some x2 /\ w.cell? ⟨g, 3, none⟩ = some x3) /\ True := by
 refine ⟨⟨?_, ?_, ?_, ?_⟩, trivial⟩ <;> simp [World.cell?, h]
theorem heap_allocE (w : World) (o : Obj) : (w.alloc o).heap[w.heap.size]? = some o := by
 unfold World.alloc;exact Array.getElem?_push_size
theorem cdGood_any (w : World) (A B : OA) (n m c d : Nat) (els : List El) (lims : List Int) (q0 q1 q2 q3 : Int) (ha : RdEl w A n els) (hb : RdI w B m lims) (hn : n <= 1099511627776) (hm : m <= 1099511627776) (hs : ∀ x ∈ els, x.1.size <= 9223372036854775807) :
  Calls Tryz.prog 51 #[.agg #[.slice A n c, .slice B m d, .int .i64 q0, .int .i64 q1, .int .i64 q2, .int .i64 q3]] w fun e w' => e = .returned (.bool (codeB els lims q0 q1 q2 q3)) /\ ∃ y, w' = ext w y := by
 have Hl := Lib.hid ha.len;have Hm := Lib.hid hb.len;go_enter Tryz.func51, Tryz.ntmps51;go_wp2
 go_loopw [3, 4, 8] (fun _ _ i wr => ∃ (k : Nat) (y : World), k <= n /\ i = .int .i64 k /\ wr = ext (w.alloc (oC A n c B m d q0 q1 q2 q3)) y /\ ∀ j, j < k -> Hid (okElAt els j = true)) (fun _ _ i _ => n - (intOf i).toNat)
 case atStart => exact ⟨0, _, Om, rfl, ext_self _, fun j hj => by omega⟩
 case round =>
  obtain ⟨k, y, hk, rfl, rfl, hno⟩ := hrel;by_cases hlt : k < n
  ·
   obtain ⟨b, off, rfl, hb0, hc0, hc1, hc2, hc3⟩ := ha.at_ k hlt;obtain ⟨p, hp⟩ : ∃ p, els[k]?.getD zEl = p := ⟨_, rfl⟩;rw [hp] at hc0 hc1 hc2 hc3;have hps : p.1.size <= 9223372036854775807 := by rw [<- hp]; exact hs _ (getD_mem zEl els k (by rw [Hl.out]; exact hlt))
   have HP : Hid (okElAt els k = (elB p && (decide (k = 0) || Op.bytesLess (els[k - 1]?.getD zEl).1.toList p.1.toList))) := by unfold Hid okElAt; rw [hp]
   have HN := Lib.hid (@elsB_no els k (by rw [Hl.out]; exact hlt));clear hp;have ce := fun W => cdElement_any p W hps
   obtain ⟨ps, pa, pb, pc⟩ := p;simp only at hc0 hc1 hc2 hc3 ce;have hpre : ∀ j, j < n -> w.cell? ⟨b, off + j * 4, none⟩ = some (.string (els[j]?.getD zEl).1) := fun j hj => by
    obtain ⟨b', off', e, _, h0, _⟩ := ha.at_ j hj;injection e with e;injection e with e1 e2;subst e1 e2;exact h0
   go_wp2;have hB0 : Below w.heap.size w (ext (w.alloc (.cells #[.slice (some ⟨b, off, none⟩) n c, .slice B m d, .int .i64 q0, .int .i64 q1, .int .i64 q2, .int .i64 q3] 27)) y) := by repeat first | exact .refl _ _ | assumption | refine bExt ?_ _ | refine bAlloc ?_ _ | refine bDrewN ?_ _ | refine bDrew ?_ | refine bSet ?_ (by first | exact Nat.le_refl _ | omega | (simp <;> omega)) _
   have hcode : (ext (w.alloc (.cells #[.slice (some ⟨b, off, none⟩) n c, .slice B m d, .int .i64 q0, .int .i64 q1, .int .i64 q2, .int .i64 q3] 27)) y).cell? ⟨w.heap.size, 0, none⟩ = some (.slice (some ⟨b, off, none⟩) n c) := by simp [go_sem]
   have hlc : w.heap.size < (ext (w.alloc (.cells #[.slice (some ⟨b, off, none⟩) n c, .slice B m d, .int .i64 q0, .int .i64 q1, .int .i64 q2, .int .i64 q3] 27)) y).heap.size := Nat.lt_of_lt_of_le (by simp) (ext_le _ y);generalize hW : ext (w.alloc (.cells #[.slice (some ⟨b, off, none⟩) n c, .slice B m d, .int .i64 q0, .int .i64 q1, .int .i64 q2, .int .i64 q3] 27)) y = W1 at *;have hB1 := bAlloc (Below.refl W1.heap.size W1) (.cells #[.string ps, .int .i64 pa, .int .i64 pb, .int .i64 pc] 112);obtain ⟨⟨e0, e1, e2, e3⟩, _⟩ := blkE (heap_allocE W1 (.cells #[.string ps, .int .i64 pa, .int .i64 pb, .int .i64 pc] 112));have hcode1 := (hB1.cell (p := ⟨w.heap.size, 0, none⟩) hlc).trans hcode;have hpre1 : ∀ j, j < n -> (W1.alloc (.cells #[.string ps, .int .i64 pa, .int .i64 pb, .int .i64 pc] 112)).cell? ⟨b, off + j * 4, none⟩ = some (.string (els[j]?.getD zEl).1) := fun j hj => (hB1.cell (p := ⟨b, off + j * 4, none⟩) (Nat.lt_of_lt_of_le hb0 hB0.size)).trans ((hB0.cell (p := ⟨b, off + j * 4, none⟩) hb0).trans (hpre j hj))
   have hB2 : Below w.heap.size w (W1.alloc (.cells #[.string ps, .int .i64 pa, .int .i64 pb, .int .i64 pc] 112)) := hB0.trans (hB1.mono hB0.size);have hsz : (W1.alloc (.cells #[.string ps, .int .i64 pa, .int .i64 pb, .int .i64 pc] 112)).heap.size = W1.heap.size + 1 := by simp
   have hBX : Below (w.alloc (.cells #[.slice (some ⟨b, off, none⟩) n c, .slice B m d, .int .i64 q0, .int .i64 q1, .int .i64 q2, .int .i64 q3] 27)).heap.size (w.alloc (.cells #[.slice (some ⟨b, off, none⟩) n c, .slice B m d, .int .i64 q0, .int .i64 q1, .int .i64 q2, .int .i64 q3] 27)) (W1.alloc (.cells #[.string ps, .int .i64 pa, .int .i64 pb, .int .i64 pc] 112)) := bAlloc (by rw [<- hW]; exact ext_below _ _) _;generalize hW2 : W1.alloc (.cells #[.string ps, .int .i64 pa, .int .i64 pb, .int .i64 pc] 112) = W2 at *;have hE : W1.heap.size < W2.heap.size := Om;clear hcode hB1 hW hW2 hpre hc0 hc1 hc2 hc3 hB0;generalize W1.heap.size = E at *;have hlc2 : w.heap.size < W2.heap.size := Om;have hb2 : b < W2.heap.size := Nat.lt_of_lt_of_le hb0 hB2.size;have KS : ∀ W', Below W2.heap.size W2 W' -> (W'.cell? ⟨w.heap.size, 0, none⟩ = some (.slice (some ⟨b, off, none⟩) n c) /\ W'.cell? ⟨E, 0, none⟩ = some (.string ps) /\ W'.cell? ⟨E, 1, none⟩ = some (.int .i64 pa) /\ W'.cell? ⟨E, 2, none⟩ = some (.int .i64 pb) /\ W'.cell? ⟨E, 3, none⟩ = some (.int .i64 pc) /\ ∀ j, j < n -> W'.cell? ⟨b, off + j * 4, none⟩ = some (.string (els[j]?.getD zEl).1)) := fun W' h =>
    ⟨(h.cell (p := ⟨w.heap.size, 0, none⟩) hlc2).trans hcode1, (h.cell (p := ⟨E, 0, none⟩) hE).trans e0, (h.cell (p := ⟨E, 1, none⟩) hE).trans e1, (h.cell (p := ⟨E, 2, none⟩) hE).trans e2, (h.cell (p := ⟨E, 3, none⟩) hE).trans e3, fun j hj => (h.cell (p := ⟨b, off + j * 4, none⟩) hb2).trans (hpre1 j hj)⟩
   clear hcode1 e0 e1 e2 e3 hpre1
   cases hel : elB (ps, pa, pb, pc)
   ·
    simp only [hel] at ce;have HF := Lib.hid (HN.out (by rw [HP.out, hel]; rfl));refine wp_region_held_drew (S := fun W' => W'.cell? ⟨w.heap.size, 0, none⟩ = some (.slice (some ⟨b, off, none⟩) n c) /\ W'.cell? ⟨E, 0, none⟩ = some (.string ps) /\ W'.cell? ⟨E, 1, none⟩ = some (.int .i64 pa) /\ W'.cell? ⟨E, 2, none⟩ = some (.int .i64 pb) /\ W'.cell? ⟨E, 3, none⟩ = some (.int .i64 pc) /\ ∀ j, j < n -> W'.cell? ⟨b, off + j * 4, none⟩ = some (.string (els[j]?.getD zEl).1)) (by kernel_rfl) (KS _ bL) (fun hHeld => ?_);refine tw 0 ?_;refine wpAnyH_ready (rs := [1]) (by kernel_rfl) (by simp) ?_;refine AllReadyH.cons rfl (fun K hK => ?_) AllReadyH.nil
    go_simp
    (go_at_call 98; ((with_reducible refine ex (ce _) ?_); intro y3))
    try go_wp2_with fail
    refine hK.out _ _ (KS _ bL) (fun hHeld => ?_);clear hK K
    try simp only [Act.put, List.setIfInBounds_toArray, List.set_cons_zero, List.set_cons_succ]
    refine tw 2 ?_;refine tw 3 ?_;refine tu 4 ?_;refine tu 5 ?_;refine tu 6 ?_;refine tu 7 ?_;refine tu 8 ?_;refine tu 9 ?_;refine tu 10 ?_;refine tu 11 ?_;refine tu 12 ?_;refine tu 13 ?_;refine tu 14 ?_;refine tu 15 ?_;refine tu 16 ?_;refine tu 17 ?_;refine tw 18 ?_;refine wpAnyH_done (by kernel_rfl) ?_ _;go_wp2;go_ret;exact ⟨ret_bool (by rw [codeB, HF.out]; rfl), ext_ex bL⟩
   ·
    simp only [hel] at ce;by_cases hk0 : k = 0
    ·
     subst hk0;have HY := Lib.hid (show okElAt els 0 = true by rw [HP.out, hel]; rfl);refine wp_region_held_drew (S := fun W' => W'.cell? ⟨w.heap.size, 0, none⟩ = some (.slice (some ⟨b, off, none⟩) n c) /\ W'.cell? ⟨E, 0, none⟩ = some (.string ps) /\ W'.cell? ⟨E, 1, none⟩ = some (.int .i64 pa) /\ W'.cell? ⟨E, 2, none⟩ = some (.int .i64 pb) /\ W'.cell? ⟨E, 3, none⟩ = some (.int .i64 pc) /\ ∀ j, j < n -> W'.cell? ⟨b, off + j * 4, none⟩ = some (.string (els[j]?.getD zEl).1)) (by kernel_rfl) (KS _ bL) (fun hHeld => ?_);refine tw 0 ?_;refine wpAnyH_ready (rs := [1]) (by kernel_rfl) (by simp) ?_;refine AllReadyH.cons rfl (fun K hK => ?_) AllReadyH.nil
     go_simp
     (go_at_call 98; ((with_reducible refine ex (ce _) ?_); intro y3))
     try go_wp2_with fail
     refine hK.out _ _ (KS _ bL) (fun hHeld => ?_);clear hK K
     try simp only [Act.put, List.setIfInBounds_toArray, List.set_cons_zero, List.set_cons_succ]
     refine tw 2 ?_;refine tw 3 ?_;refine tw 4 ?_;refine tw 5 ?_;refine tw 6 ?_;refine tu 7 ?_;refine tu 8 ?_;refine tu 9 ?_;refine tu 10 ?_;refine tu 11 ?_;refine tu 12 ?_;refine tu 13 ?_;refine tu 14 ?_;refine tu 15 ?_;refine tu 16 ?_;refine tw 17 ?_;refine tw 18 ?_;refine wpAnyH_done (by kernel_rfl) ?_ _;go_wp2;go_roundw
     case rel => exact ⟨0 + 1, _, Om, by go_num, (ext_ex bL).choose_spec, okEl_more hno HY.out⟩
     case measure => simp [intOf]; omega
    ·
     obtain ⟨j, hj⟩ : ∃ j, k = j + 1 := ⟨k - 1, Om⟩;have hwI : IntKind.i64.wrap ((k : Int) - 1) = j := by rw [IntWalk.i64_in _ Om]; omega
     have hjn : j < n := Om;have hjI : (j : Int) < n := Om;have hkI : (0 : Int) < k := Om;have hkd : decide ((0 : Int) < k) = true := decide_eq_true hkI;have hkN : 0 < k := Om;have HPj : Hid (okElAt els k = (elB (ps, pa, pb, pc) && (decide (k = 0) || Op.bytesLess (els[j]?.getD zEl).1.toList ps.toList))) := by have := HP.out; rwa [show k - 1 = j by omega] at this
     have hpr := KS
     cases hless : Op.bytesLess (els[j]?.getD zEl).1.toList ps.toList
     ·
      have HF := Lib.hid (HN.out (by rw [HPj.out, hel, hless]; simp [hk0]));clear HN HP HPj hj;refine wp_region_held_drew (S := fun W' => W'.cell? ⟨w.heap.size, 0, none⟩ = some (.slice (some ⟨b, off, none⟩) n c) /\ W'.cell? ⟨E, 0, none⟩ = some (.string ps) /\ W'.cell? ⟨E, 1, none⟩ = some (.int .i64 pa) /\ W'.cell? ⟨E, 2, none⟩ = some (.int .i64 pb) /\ W'.cell? ⟨E, 3, none⟩ = some (.int .i64 pc) /\ ∀ j, j < n -> W'.cell? ⟨b, off + j * 4, none⟩ = some (.string (els[j]?.getD zEl).1)) (by kernel_rfl) (KS _ bL) (fun hHeld => ?_);refine tw 0 ?_;refine wpAnyH_ready (rs := [1]) (by kernel_rfl) (by simp) ?_;refine AllReadyH.cons rfl (fun K hK => ?_) AllReadyH.nil
      go_simp
      (go_at_call 98; ((with_reducible refine ex (ce _) ?_); intro y3))
      try go_wp2_with fail
      refine hK.out _ _ (KS _ bL) (fun hHeld => ?_);clear hK K
      try simp only [Act.put, List.setIfInBounds_toArray, List.set_cons_zero, List.set_cons_succ]
      refine tw 2 ?_;refine tw 3 ?_;refine tw 4 ?_;refine tw 5 ?_;refine tw 6 ?_;refine tw 7 ?_;refine tw 8 ?_;refine tw 9 ?_;refine tw 10 ?_;refine tw 11 ?_;refine tw 12 ?_;refine tw 13 ?_;refine tw 14 ?_;refine tw 15 ?_;refine tw 16 ?_;refine tw 17 ?_;refine tw 18 ?_;refine wpAnyH_done (by kernel_rfl) ?_ _;go_wp2;go_ret;exact ⟨ret_bool (by rw [codeB, HF.out]; rfl), ext_ex bL⟩
     ·
      have HY := Lib.hid (show okElAt els k = true by rw [HPj.out, hel, hless]; simp);clear HN HP HPj hj;refine wp_region_held_drew (S := fun W' => W'.cell? ⟨w.heap.size, 0, none⟩ = some (.slice (some ⟨b, off, none⟩) n c) /\ W'.cell? ⟨E, 0, none⟩ = some (.string ps) /\ W'.cell? ⟨E, 1, none⟩ = some (.int .i64 pa) /\ W'.cell? ⟨E, 2, none⟩ = some (.int .i64 pb) /\ W'.cell? ⟨E, 3, none⟩ = some (.int .i64 pc) /\ ∀ j, j < n -> W'.cell? ⟨b, off + j * 4, none⟩ = some (.string (els[j]?.getD zEl).1)) (by kernel_rfl) (KS _ bL) (fun hHeld => ?_);refine tw 0 ?_;refine wpAnyH_ready (rs := [1]) (by kernel_rfl) (by simp) ?_;refine AllReadyH.cons rfl (fun K hK => ?_) AllReadyH.nil
      go_simp
      (go_at_call 98; ((with_reducible refine ex (ce _) ?_); intro y3))
      try go_wp2_with fail
      refine hK.out _ _ (KS _ bL) (fun hHeld => ?_);clear hK K
      try simp only [Act.put, List.setIfInBounds_toArray, List.set_cons_zero, List.set_cons_succ]
      refine tw 2 ?_;refine tw 3 ?_;refine tw 4 ?_;refine tw 5 ?_;refine tw 6 ?_;refine tw 7 ?_;refine tw 8 ?_;refine tw 9 ?_;refine tw 10 ?_;refine tw 11 ?_;refine tw 12 ?_;refine tw 13 ?_;refine tw 14 ?_;refine tw 15 ?_;refine tw 16 ?_;refine tw 17 ?_;refine tw 18 ?_;refine wpAnyH_done (by kernel_rfl) ?_ _;go_wp2;go_roundw
      case rel => exact ⟨k + 1, _, Om, by go_num, (ext_ex bL).choose_spec, okEl_more hno HY.out⟩
      case measure => simp [intOf]; omega
  ·
   have HE := Lib.hid (elsB_end (l := els) (fun i hi => hno i (by rw [Hl.out] at hi; omega)));have HC : Hid (codeB els lims q0 q1 q2 q3 = (inB (n : Int) 1 24 && (decide (m = 5) && (allB lims 0 9 && (inB q0 1 3 && (inB q1 0 20 && (inB q2 50 100 && inB q3 0 500))))))) := by unfold Hid codeB; rw [HE.out, Hl.out, Hm.out, Bool.true_and]
   have c0 := fun W => l1In_any (n : Int) 1 24 W
   have c2 := fun W h => l1All_any W B m d lims 0 9 (hb.below h) hm
   have c3 := fun W => l1In_any q0 1 3 W
   have c4 := fun W => l1In_any q1 0 20 W
   have c5 := fun W => l1In_any q2 50 100 W
   have c6 := fun W => l1In_any q3 0 500 W
   generalize inB (n : Int) 1 24 = b0 at *;generalize allB lims 0 9 = b2 at *;generalize inB q0 1 3 = b3 at *;generalize inB q1 0 20 = b4 at *;generalize inB q2 50 100 = b5 at *;generalize inB q3 0 500 = b6 at *;clear hno HE hs
   cases b0
   ·
    skip
    go_wp2_with (first | (go_at_call 60; (with_reducible refine ep (c0 _) ?_)) | (go_at_call 99; (with_reducible refine ep (c2 _ bL) ?_)) | (go_at_call 60; (with_reducible refine ep (c3 _) ?_)) | (go_at_call 60; (with_reducible refine ep (c4 _) ?_)) | (go_at_call 60; (with_reducible refine ep (c5 _) ?_)) | (go_at_call 60; (with_reducible refine ep (c6 _) ?_)))
    go_ret;exact ⟨ret_bool (by rw [HC.out]; simp [*]), ext_ex bL⟩
   by_cases h5 : ¬ m = 5
   ·
    have h5I : ¬ (m : Int) = 5 := Om;have h5B : ((m : Int) == 5) = false := by simp; omega
    go_wp2_with (first | (go_at_call 60; (with_reducible refine ep (c0 _) ?_)) | (go_at_call 99; (with_reducible refine ep (c2 _ bL) ?_)) | (go_at_call 60; (with_reducible refine ep (c3 _) ?_)) | (go_at_call 60; (with_reducible refine ep (c4 _) ?_)) | (go_at_call 60; (with_reducible refine ep (c5 _) ?_)) | (go_at_call 60; (with_reducible refine ep (c6 _) ?_)))
    go_ret;exact ⟨ret_bool (by rw [HC.out]; simp [*]), ext_ex bL⟩
   obtain rfl : m = 5 := Om;clear h5
   cases b2
   ·
    skip
    go_wp2_with (first | (go_at_call 60; (with_reducible refine ep (c0 _) ?_)) | (go_at_call 99; (with_reducible refine ep (c2 _ bL) ?_)) | (go_at_call 60; (with_reducible refine ep (c3 _) ?_)) | (go_at_call 60; (with_reducible refine ep (c4 _) ?_)) | (go_at_call 60; (with_reducible refine ep (c5 _) ?_)) | (go_at_call 60; (with_reducible refine ep (c6 _) ?_)))
    go_ret;exact ⟨ret_bool (by rw [HC.out]; simp [*]), ext_ex bL⟩
   cases b3
   ·
    skip
    go_wp2_with (first | (go_at_call 60; (with_reducible refine ep (c0 _) ?_)) | (go_at_call 99; (with_reducible refine ep (c2 _ bL) ?_)) | (go_at_call 60; (with_reducible refine ep (c3 _) ?_)) | (go_at_call 60; (with_reducible refine ep (c4 _) ?_)) | (go_at_call 60; (with_reducible refine ep (c5 _) ?_)) | (go_at_call 60; (with_reducible refine ep (c6 _) ?_)))
    go_ret;exact ⟨ret_bool (by rw [HC.out]; simp [*]), ext_ex bL⟩
   cases b4
   ·
    skip
    go_wp2_with (first | (go_at_call 60; (with_reducible refine ep (c0 _) ?_)) | (go_at_call 99; (with_reducible refine ep (c2 _ bL) ?_)) | (go_at_call 60; (with_reducible refine ep (c3 _) ?_)) | (go_at_call 60; (with_reducible refine ep (c4 _) ?_)) | (go_at_call 60; (with_reducible refine ep (c5 _) ?_)) | (go_at_call 60; (with_reducible refine ep (c6 _) ?_)))
    go_ret;exact ⟨ret_bool (by rw [HC.out]; simp [*]), ext_ex bL⟩
   cases b5
   ·
    skip
    go_wp2_with (first | (go_at_call 60; (with_reducible refine ep (c0 _) ?_)) | (go_at_call 99; (with_reducible refine ep (c2 _ bL) ?_)) | (go_at_call 60; (with_reducible refine ep (c3 _) ?_)) | (go_at_call 60; (with_reducible refine ep (c4 _) ?_)) | (go_at_call 60; (with_reducible refine ep (c5 _) ?_)) | (go_at_call 60; (with_reducible refine ep (c6 _) ?_)))
    go_ret;exact ⟨ret_bool (by rw [HC.out]; simp [*]), ext_ex bL⟩
   cases b6
   ·
    skip
    go_wp2_with (first | (go_at_call 60; (with_reducible refine ep (c0 _) ?_)) | (go_at_call 99; (with_reducible refine ep (c2 _ bL) ?_)) | (go_at_call 60; (with_reducible refine ep (c3 _) ?_)) | (go_at_call 60; (with_reducible refine ep (c4 _) ?_)) | (go_at_call 60; (with_reducible refine ep (c5 _) ?_)) | (go_at_call 60; (with_reducible refine ep (c6 _) ?_)))
    go_ret;exact ⟨ret_bool (by rw [HC.out]; simp [*]), ext_ex bL⟩
   go_wp2_with (first | (go_at_call 60; (with_reducible refine ep (c0 _) ?_)) | (go_at_call 99; (with_reducible refine ep (c2 _ bL) ?_)) | (go_at_call 60; (with_reducible refine ep (c3 _) ?_)) | (go_at_call 60; (with_reducible refine ep (c4 _) ?_)) | (go_at_call 60; (with_reducible refine ep (c5 _) ?_)) | (go_at_call 60; (with_reducible refine ep (c6 _) ?_)))
   go_ret;exact ⟨ret_bool (by rw [HC.out]; simp [*]), ext_ex bL⟩
theorem isFamily_any (a : Int) (w : World) :
  Calls Tryz.prog 86 #[.int .i64 a] w fun e w' => e = .returned (.bool (inB a 0 4)) /\ w = w' := by
 go_enter Tryz.func86, Tryz.ntmps86;go_wp2_with (go_at_call 64; (with_reducible refine ep (within_any _ _ _ _) ?_))
 go_ret;exact ⟨rfl, rfl⟩
theorem codeB_perm (els : List El) (lims : List Int) (n m : Nat) (q0 q1 q2 q3 : Int) (hn : els.length = n) (hm : lims.length = m) : codeB els lims q0 q1 q2 q3 = ((inB (n : Int) 1 24 && (decide (m = 5) && allB lims 0 9)) && ((inB q0 1 3 && (inB q1 0 20 && (inB q2 50 100 && inB q3 0 500))) && elsB els)) := by
 unfold codeB;rw [hn, hm]
 cases elsB els <;> cases inB (n : Int) 1 24 <;> cases decide (m = 5) <;> cases allB lims 0 9 <;> simp
theorem isCode_any (w : World) (A B : OA) (n m c d : Nat) (els : List El) (lims : List Int) (q0 q1 q2 q3 : Int) (ha : RdEl w A n els) (hb : RdI w B m lims) (hn : n <= 1099511627776) (hm : m <= 1099511627776) (hs : ∀ x ∈ els, x.1.size <= 9223372036854775807) :
  Calls Tryz.prog 44 #[.agg #[.slice A n c, .slice B m d, .int .i64 q0, .int .i64 q1, .int .i64 q2, .int .i64 q3]] w fun e w' => e = .returned (.bool (codeB els lims q0 q1 q2 q3)) /\ ∃ y, w' = ext w y := by
 have Hl := Lib.hid ha.len;have HC := Lib.hid (codeB_perm els lims n m q0 q1 q2 q3 ha.len hb.len);have c0 := fun W => within_any (n : Int) 1 24 W
 have c2 := fun W h => allWithin_any W B m d lims 0 9 (hb.below h) hm
 have c3 := fun W => within_any q0 1 3 W
 have c4 := fun W => within_any q1 0 20 W
 have c5 := fun W => within_any q2 50 100 W
 have c6 := fun W => within_any q3 0 500 W
 generalize inB (n : Int) 1 24 = b0 at *;generalize allB lims 0 9 = b2 at *;generalize inB q0 1 3 = b3 at *;generalize inB q1 0 20 = b4 at *;generalize inB q2 50 100 = b5 at *;generalize inB q3 0 500 = b6 at *;go_enter Tryz.func44, Tryz.ntmps44
 cases b0
 ·
  skip
  go_wp2_with (first | (go_at_call 64; (with_reducible refine ep (c0 _) ?_)) | (go_at_call 84; (with_reducible refine ep (c2 _ bL) ?_)) | (go_at_call 64; (with_reducible refine ep (c3 _) ?_)) | (go_at_call 64; (with_reducible refine ep (c4 _) ?_)) | (go_at_call 64; (with_reducible refine ep (c5 _) ?_)) | (go_at_call 64; (with_reducible refine ep (c6 _) ?_)))
  go_ret;exact ⟨ret_bool (by rw [HC.out]; simp [*]), ext_ex bL⟩
 by_cases h5 : ¬ m = 5
 ·
  have h5I : ¬ (m : Int) = 5 := Om;have h5B : ((m : Int) == 5) = false := by simp; omega
  go_wp2_with (first | (go_at_call 64; (with_reducible refine ep (c0 _) ?_)) | (go_at_call 84; (with_reducible refine ep (c2 _ bL) ?_)) | (go_at_call 64; (with_reducible refine ep (c3 _) ?_)) | (go_at_call 64; (with_reducible refine ep (c4 _) ?_)) | (go_at_call 64; (with_reducible refine ep (c5 _) ?_)) | (go_at_call 64; (with_reducible refine ep (c6 _) ?_)))
  go_ret;exact ⟨ret_bool (by rw [HC.out]; simp [*]), ext_ex bL⟩
 obtain rfl : m = 5 := Om;clear h5
 cases b2
 ·
  skip
  go_wp2_with (first | (go_at_call 64; (with_reducible refine ep (c0 _) ?_)) | (go_at_call 84; (with_reducible refine ep (c2 _ bL) ?_)) | (go_at_call 64; (with_reducible refine ep (c3 _) ?_)) | (go_at_call 64; (with_reducible refine ep (c4 _) ?_)) | (go_at_call 64; (with_reducible refine ep (c5 _) ?_)) | (go_at_call 64; (with_reducible refine ep (c6 _) ?_)))
  go_ret;exact ⟨ret_bool (by rw [HC.out]; simp [*]), ext_ex bL⟩
 cases b3
 ·
  skip
  go_wp2_with (first | (go_at_call 64; (with_reducible refine ep (c0 _) ?_)) | (go_at_call 84; (with_reducible refine ep (c2 _ bL) ?_)) | (go_at_call 64; (with_reducible refine ep (c3 _) ?_)) | (go_at_call 64; (with_reducible refine ep (c4 _) ?_)) | (go_at_call 64; (with_reducible refine ep (c5 _) ?_)) | (go_at_call 64; (with_reducible refine ep (c6 _) ?_)))
  go_ret;exact ⟨ret_bool (by rw [HC.out]; simp [*]), ext_ex bL⟩
 cases b4
 ·
  skip
  go_wp2_with (first | (go_at_call 64; (with_reducible refine ep (c0 _) ?_)) | (go_at_call 84; (with_reducible refine ep (c2 _ bL) ?_)) | (go_at_call 64; (with_reducible refine ep (c3 _) ?_)) | (go_at_call 64; (with_reducible refine ep (c4 _) ?_)) | (go_at_call 64; (with_reducible refine ep (c5 _) ?_)) | (go_at_call 64; (with_reducible refine ep (c6 _) ?_)))
  go_ret;exact ⟨ret_bool (by rw [HC.out]; simp [*]), ext_ex bL⟩
 cases b5
 ·
  skip
  go_wp2_with (first | (go_at_call 64; (with_reducible refine ep (c0 _) ?_)) | (go_at_call 84; (with_reducible refine ep (c2 _ bL) ?_)) | (go_at_call 64; (with_reducible refine ep (c3 _) ?_)) | (go_at_call 64; (with_reducible refine ep (c4 _) ?_)) | (go_at_call 64; (with_reducible refine ep (c5 _) ?_)) | (go_at_call 64; (with_reducible refine ep (c6 _) ?_)))
  go_ret;exact ⟨ret_bool (by rw [HC.out]; simp [*]), ext_ex bL⟩
 cases b6
 ·
  skip
  go_wp2_with (first | (go_at_call 64; (with_reducible refine ep (c0 _) ?_)) | (go_at_call 84; (with_reducible refine ep (c2 _ bL) ?_)) | (go_at_call 64; (with_reducible refine ep (c3 _) ?_)) | (go_at_call 64; (with_reducible refine ep (c4 _) ?_)) | (go_at_call 64; (with_reducible refine ep (c5 _) ?_)) | (go_at_call 64; (with_reducible refine ep (c6 _) ?_)))
  go_ret;exact ⟨ret_bool (by rw [HC.out]; simp [*]), ext_ex bL⟩
 have HC2 : Hid (codeB els lims q0 q1 q2 q3 = elsB els) := by have := HC.out; unfold Hid; rw [this]; simp
 go_wp2_with (first | (go_at_call 64; (with_reducible refine ep (c0 _) ?_)) | (go_at_call 84; (with_reducible refine ep (c2 _ bL) ?_)) | (go_at_call 64; (with_reducible refine ep (c3 _) ?_)) | (go_at_call 64; (with_reducible refine ep (c4 _) ?_)) | (go_at_call 64; (with_reducible refine ep (c5 _) ?_)) | (go_at_call 64; (with_reducible refine ep (c6 _) ?_)))
 clear c0 c2 c3 c4 c5 c6 HC
 go_loopw [3, 4, 47] (fun _ _ i wr => ∃ (k : Nat) (y : World), k <= n /\ i = .int .i64 k /\ wr = ext (w.alloc (oC A n c B 5 d q0 q1 q2 q3)) y /\ ∀ j, j < k -> Hid (okElAt els j = true)) (fun _ _ i _ => n - (intOf i).toNat)
 case atStart => exact ⟨0, _, Om, rfl, ext_self _, fun j hj => by omega⟩
 case round =>
  obtain ⟨k, y, hk, rfl, rfl, hno⟩ := hrel;by_cases hlt : k < n
  ·
   obtain ⟨b, off, rfl, hb0, hc0, hc1, hc2, hc3⟩ := ha.at_ k hlt;obtain ⟨p, hp⟩ : ∃ p, els[k]?.getD zEl = p := ⟨_, rfl⟩;rw [hp] at hc0 hc1 hc2 hc3;have hps : p.1.size <= 9223372036854775807 := by rw [<- hp]; exact hs _ (getD_mem zEl els k (by rw [Hl.out]; exact hlt))
   have HP : Hid (okElAt els k = (elB p && (decide (k = 0) || Op.bytesLess (els[k - 1]?.getD zEl).1.toList p.1.toList))) := by unfold Hid okElAt; rw [hp]
   have HN := Lib.hid (@elsB_no els k (by rw [Hl.out]; exact hlt));clear hp;obtain ⟨ps, pa, pb, pc⟩ := p;simp only at hc0 hc1 hc2 hc3;have HE : Hid (elB (ps, pa, pb, pc) = (nameB ps && (inB pa 0 4 && (inB pb 0 4 && inB pc 1 2000)))) := rfl;have d0 := fun W => isElementName_any ps W hps
   have d1 := fun W => isFamily_any pa W
   have d2 := fun W => within_any pb 0 4 W
   have d3 := fun W => within_any pc 1 2000 W
   generalize nameB ps = e0 at *;generalize inB pa 0 4 = e1 at *;generalize inB pb 0 4 = e2 at *;generalize inB pc 1 2000 = e3 at *
   cases e0
   ·
    have HF := Lib.hid (HN.out (by rw [HP.out, HE.out]; simp));go_wp2_with (first | (go_at_call 85; (with_reducible refine ep (d0 _) ?_)) | (go_at_call 86; (with_reducible refine ep (d1 _) ?_)) | (go_at_call 64; (with_reducible refine ep (d2 _) ?_)) | (go_at_call 64; (with_reducible refine ep (d3 _) ?_)))
    go_ret;exact ⟨ret_bool (by rw [HC2.out, HF.out]), ext_ex bL⟩
   cases e1
   ·
    have HF := Lib.hid (HN.out (by rw [HP.out, HE.out]; simp));go_wp2_with (first | (go_at_call 85; (with_reducible refine ep (d0 _) ?_)) | (go_at_call 86; (with_reducible refine ep (d1 _) ?_)) | (go_at_call 64; (with_reducible refine ep (d2 _) ?_)) | (go_at_call 64; (with_reducible refine ep (d3 _) ?_)))
    go_ret;exact ⟨ret_bool (by rw [HC2.out, HF.out]), ext_ex bL⟩
   cases e2
   ·
    have HF := Lib.hid (HN.out (by rw [HP.out, HE.out]; simp));go_wp2_with (first | (go_at_call 85; (with_reducible refine ep (d0 _) ?_)) | (go_at_call 86; (with_reducible refine ep (d1 _) ?_)) | (go_at_call 64; (with_reducible refine ep (d2 _) ?_)) | (go_at_call 64; (with_reducible refine ep (d3 _) ?_)))
    go_ret;exact ⟨ret_bool (by rw [HC2.out, HF.out]), ext_ex bL⟩
   cases e3
   ·
    have HF := Lib.hid (HN.out (by rw [HP.out, HE.out]; simp));go_wp2_with (first | (go_at_call 85; (with_reducible refine ep (d0 _) ?_)) | (go_at_call 86; (with_reducible refine ep (d1 _) ?_)) | (go_at_call 64; (with_reducible refine ep (d2 _) ?_)) | (go_at_call 64; (with_reducible refine ep (d3 _) ?_)))
    go_ret;exact ⟨ret_bool (by rw [HC2.out, HF.out]), ext_ex bL⟩
   have HP2 : Hid (okElAt els k = (decide (k = 0) || Op.bytesLess (els[k - 1]?.getD zEl).1.toList ps.toList)) := by have := HP.out; unfold Hid; rw [this, HE.out]; simp
   clear HP HE;by_cases hk0 : k = 0
   ·
    subst hk0;rw [Nat.zero_mul, Nat.add_zero] at hc0 hc1 hc2 hc3;have HY := Lib.hid (show okElAt els 0 = true by rw [HP2.out]; rfl);go_wp2_with (first | (go_at_call 85; (with_reducible refine ep (d0 _) ?_)) | (go_at_call 86; (with_reducible refine ep (d1 _) ?_)) | (go_at_call 64; (with_reducible refine ep (d2 _) ?_)) | (go_at_call 64; (with_reducible refine ep (d3 _) ?_)))
    go_quiet (fail)
    go_wp2;go_roundw
    case rel => exact ⟨0 + 1, _, Om, by go_num, (ext_ex bL).choose_spec, okEl_more hno HY.out⟩
    case measure => simp [intOf]; omega
   ·
    obtain ⟨j, hj⟩ : ∃ j, k = j + 1 := ⟨k - 1, Om⟩;have hjn : j < n := Om;obtain ⟨b', off', hab, _, hpj, _⟩ := ha.at_ j hjn;injection hab with hab;injection hab with hab1 hab2;subst hab1 hab2;have HPj : Hid (okElAt els k = (decide (k = 0) || Op.bytesLess (els[j]?.getD zEl).1.toList ps.toList)) := by have := HP2.out; rwa [show k - 1 = j by omega] at this
    clear HP2;generalize (els[j]?.getD zEl).1 = pr at *;have hk1 : k <= j + 1 := Om;have hk2 : j + 1 <= k := Om;clear hj
    cases hless : Op.bytesLess pr.toList ps.toList
    ·
     have HF := Lib.hid (HN.out (by rw [HPj.out, hless]; simp [hk0]));clear HN HPj;go_wp2_with (first | (go_at_call 85; (with_reducible refine ep (d0 _) ?_)) | (go_at_call 86; (with_reducible refine ep (d1 _) ?_)) | (go_at_call 64; (with_reducible refine ep (d2 _) ?_)) | (go_at_call 64; (with_reducible refine ep (d3 _) ?_)))
     have hwI : IntKind.i64.wrap ((k : Int) - 1) = j := by rw [IntWalk.i64_in _ Om]; omega
     have hjI : (j : Int) < n := Om;have hkI : (0 : Int) < k := Om;have hkd : decide ((0 : Int) < k) = true := decide_eq_true hkI;have hkN : 0 < k := Om
     go_quiet (fail)
     go_wp2;go_ret;exact ⟨ret_bool (by rw [HC2.out, HF.out]), ext_ex bL⟩
    ·
     have HY := Lib.hid (show okElAt els k = true by rw [HPj.out, hless]; simp);clear HN HPj;go_wp2_with (first | (go_at_call 85; (with_reducible refine ep (d0 _) ?_)) | (go_at_call 86; (with_reducible refine ep (d1 _) ?_)) | (go_at_call 64; (with_reducible refine ep (d2 _) ?_)) | (go_at_call 64; (with_reducible refine ep (d3 _) ?_)))
     have hwI : IntKind.i64.wrap ((k : Int) - 1) = j := by rw [IntWalk.i64_in _ Om]; omega
     have hjI : (j : Int) < n := Om;have hkI : (0 : Int) < k := Om;have hkd : decide ((0 : Int) < k) = true := decide_eq_true hkI;have hkN : 0 < k := Om
     go_quiet (fail)
     go_wp2;go_roundw
     case rel => exact ⟨k + 1, _, Om, by go_num, (ext_ex bL).choose_spec, okEl_more hno HY.out⟩
     case measure => simp [intOf]; omega
  ·
   have HE := Lib.hid (elsB_end (l := els) (fun i hi => hno i (by rw [Hl.out] at hi; omega)));go_wp2;go_ret;exact ⟨ret_bool (by rw [HC2.out, HE.out]), ext_ex bL⟩
end Go.Proofs.YtlfhhkgleapamaaGreatDoor
