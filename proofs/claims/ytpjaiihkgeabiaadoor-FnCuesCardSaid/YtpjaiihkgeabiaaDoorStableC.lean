/- The library's insertion sort of cues by a comparison, as the program calls it. Conditions: lengths below 2^40. -/
import Derived.Test.YtpjaiihkgeabiaaDoorStableP
import Derived.Test.YtpjaiihkgeabiaaDoorTrip
import Derived.Deep.RegionHeld3
import Derived.RegionTactic
set_option linter.unusedVariables false
set_option linter.unusedSimpArgs false
set_option maxRecDepth 100000
namespace Go.Proofs.YtpjaiihkgeabiaaDoor
open Go.RowKit
/-- The comparison of cues answers below 0 just if the key is smaller, for the elements of D. -/
def CmpC (key : T3 → Int) (D : List T3) : Prop := ∀ w' x y, x ∈ D → y ∈ D →
  Calls Tryd.prog 101 #[.agg #[.int .i64 x.1, .int .i64 x.2.1, .int .i64 x.2.2], .agg #[.int .i64 y.1, .int .i64 y.2.1, .int .i64 y.2.2]] w' fun e w'' => ∃ r : Int, ((key x < key y → r < 0) ∧ (key y ≤ key x → 0 ≤ r)) ∧ e = .returned (.int .i64 r) ∧ ∃ z, w'' = ext w' z
theorem CmpC.sub {key : T3 → Int} {D D' : List T3} (h : CmpC key D) (hs : ∀ x ∈ D', x ∈ D) : CmpC key D' := fun w' x y hx hy => h w' x y (hs x hx) (hs y hy)
/-- A row of cues of the call's own. -/
abbrev OwC (base : Nat) (w : World) (A : Option Addr) (n c : Nat) (l : List T3) : Prop := Ow3 62 base w A n c l
theorem Ow3.storedC {e base n c g : Nat} {w : World} {l : List T3} (h : Ow3 e base w (some ⟨g, 0, none⟩) n c l) (k : Nat) (hk : k < n) (y : T3) :
    Ow3 e base (((w.setCell ⟨g, k * 3, none⟩ (.int .i64 y.1)).setCell ⟨g, k * 3 + 1, none⟩ (.int .i64 y.2.1)).setCell ⟨g, k * 3 + 2, none⟩ (.int .i64 y.2.2)) (some ⟨g, 0, none⟩) n c (l.set k y) ∧
    w.grownBy (((w.setCell ⟨g, k * 3, none⟩ (.int .i64 y.1)).setCell ⟨g, k * 3 + 1, none⟩ (.int .i64 y.2.1)).setCell ⟨g, k * 3 + 2, none⟩ (.int .i64 y.2.2)) (some g) := h.stored_ k hk y.1 y.2.1 y.2.2
theorem Ow3.after {e base n c : Nat} {A : Option Addr} {w : World} {l : List T3} (h : Ow3 e base w A n c l) (x : World) : Ow3 e base (ext w.drew x) A n c l := h.below (bExt (bDrew (Below.refl _ _)) x)
theorem grown_after {w w' : World} {row : Option Nat} (h : w.grownBy w' row) (x : World) : w.grownBy (ext w'.drew x) row := h.trans (grownBy_of_below (bExt (bDrew (Below.refl _ _)) x))
theorem grown_extC {w : World} (x : World) (row : Option Nat) : w.grownBy (ext w x) row := grownBy_of_below (ext_below w x)
/-- The list while x = U's head is on its way down through T. -/
def insT (P T : List T3) (x : T3) (U : List T3) (q : Nat) : List T3 := P ++ T.take q ++ x :: T.drop q ++ U
theorem insT_at {P T U : List T3} {x : T3} {q : Nat} (hq : q ≤ T.length) : (insT P T x U q)[P.length + q]?.getD z3 = x := by
  unfold insT
  rw [List.append_assoc, List.getElem?_append_right (by simp; omega)]
  simp [show min q T.length = q by omega]
theorem insT_below {P T U : List T3} {x : T3} {q : Nat} (hq : q < T.length) : (insT P T x U (q + 1))[P.length + q]?.getD z3 = T[q]?.getD z3 := by
  unfold insT
  rw [List.append_assoc, List.append_assoc, List.getElem?_append_right (by omega), List.getElem?_append_left (by simp; omega)]
  simp [show P.length + q - P.length = q by omega, List.getElem?_take_of_lt]
theorem insT_swap {P T U : List T3} {x : T3} {q : Nat} (hq : q < T.length) : ((insT P T x U (q + 1)).set (P.length + q + 1) (T[q]?.getD z3)).set (P.length + q) x = insT P T x U q := by
  have e1 : T.take (q + 1) = T.take q ++ [T[q]?.getD z3] := take_succ_getD z3 T q hq
  have e2 : T.drop q = (T[q]?.getD z3) :: T.drop (q + 1) := by rw [List.drop_eq_getElem_cons hq]; simp [hq]
  have hl : (P ++ T.take q).length = P.length + q := by simp; omega
  unfold insT
  rw [e1, e2]
  generalize T[q]?.getD z3 = y
  rw [show P ++ (T.take q ++ [y]) ++ x :: T.drop (q + 1) ++ U = (P ++ T.take q) ++ (y :: x :: (T.drop (q + 1) ++ U)) by simp,
    show P ++ T.take q ++ x :: (y :: T.drop (q + 1)) ++ U = (P ++ T.take q) ++ (x :: y :: (T.drop (q + 1) ++ U)) by simp]
  rw [List.set_append_right _ _ (by omega), List.set_append_right _ _ (by omega), hl]
  simp [show P.length + q + 1 - (P.length + q) = 1 by omega]
theorem insT_len {P T U : List T3} {x : T3} {q : Nat} : (insT P T x U q).length = P.length + T.length + 1 + U.length := by
  unfold insT
  have := congrArg List.length (List.take_append_drop q T)
  simp only [List.length_append] at this
  simp; omega
set_option maxHeartbeats 2000000 in
theorem insSortC_any (w : World) (base : Nat) (g : Nat) (n c : Nat) (d : List T3) (a b : Nat) (key : T3 → Int) (p : Addr) (ho : OwC base w (some ⟨g, 0, none⟩) n c d) (hn : n ≤ 1099511627776) (hab : a ≤ b) (hbn : b ≤ n) (hC : CmpC key d) :
    Calls Tryd.prog 125 #[.slice (some ⟨g, 0, none⟩) n c, .int .i64 a, .int .i64 b, .func (.func 101) #[] #[]] w fun e w' => e = .returned (.tuple #[]) ∧ ∃ T, Srt key T ∧ SF key T ((d.drop a).take (b - a)) ∧ OwC base w' (some ⟨g, 0, none⟩) n c (d.take a ++ T ++ d.drop b) ∧ w.grownBy w' (some g) := by
  have hl := ho.len
  by_cases hab0 : a = b
  · subst hab0
    go_enter Tryd.func125, Tryd.ntmps125
    go_wp2
    go_loopw [8] (fun i wr => i = .int .i64 ((a : Int) + 1) ∧ wr = w) (fun i _ => 0)
    case atStart => exact ⟨rfl, rfl⟩
    case round =>
      obtain ⟨rfl, rfl⟩ := hrel
      have hna : ¬ (a : Int) + 1 < a := by omega
      go_wp2
      go_end0
      exact ⟨rfl, [], Srt.nil, by simp [SF], by simpa [List.take_append_drop] using ho, World.grownBy.refl _ _⟩
  have hPl : (d.take a).length = a := by rw [List.length_take]; omega
  go_enter Tryd.func125, Tryd.ntmps125
  go_wp2
  go_loopw [8] (fun i wr => ∃ (k : Nat) (T : List T3), (a + 1 ≤ k ∧ k ≤ b) ∧ i = .int .i64 k ∧ Hid (T.length = k - a) ∧ Hid (Srt key T) ∧ Hid (SF key T ((d.drop a).take (k - a))) ∧ OwC base wr (some ⟨g, 0, none⟩) n c (d.take a ++ T ++ d.drop k) ∧ w.grownBy wr (some g)) (fun i _ => b - (intOf i).toNat)
  case atStart =>
    refine ⟨a + 1, [d[a]?.getD z3], by omega, by go_num, by show _ = _; rw [List.length_singleton]; omega, Srt.one _, ?_, ?_, World.grownBy.refl _ _⟩
    · show SF _ _ _
      rw [show a + 1 - a = 1 by omega, show (d.drop a).take 1 = [d[a]?.getD z3] by have h := take_succ_getD z3 (d.drop a) 0 (by rw [List.length_drop]; omega); simpa [List.getElem?_drop] using h]
      exact SF.refl _
    · have e : d.take a ++ [d[a]?.getD z3] ++ d.drop (a + 1) = d := by
        rw [← take_succ_getD z3 d a (by omega), List.take_append_drop]
      rw [e]; exact ho
  case round =>
    obtain ⟨k, T, ⟨hak, hkb⟩, rfl, HTl, HTs, HTf, ho1, hg1⟩ := hrel
    by_cases hlt : k < b
    · have hU : d.drop k = (d[k]?.getD z3) :: d.drop (k + 1) := by rw [List.drop_eq_getElem_cons (by omega)]; simp [show k < d.length by omega]
      have hxd : d[k]?.getD z3 ∈ d := getD_mem z3 d k (by omega)
      have hTd : ∀ y ∈ T, y ∈ d := fun y hy => List.mem_of_mem_drop (List.mem_of_mem_take (HTf.out.mem hy))
      have hSFx : (d.drop a).take (k + 1 - a) = (d.drop a).take (k - a) ++ [d[k]?.getD z3] := by
        rw [show k + 1 - a = (k - a) + 1 by omega, take_succ_getD z3 _ _ (by rw [List.length_drop]; omega)]
        simp [List.getElem?_drop, show a + (k - a) = k by omega]
      have oI : OwC base wr (some ⟨g, 0, none⟩) n c (insT (d.take a) T (d[k]?.getD z3) (d.drop (k + 1)) (k - a)) := by
        rw [hU] at ho1
        unfold insT
        rw [List.take_of_length_le (l := T) (by rw [HTl.out]; exact Nat.le_refl _), List.drop_of_length_le (l := T) (by rw [HTl.out]; exact Nat.le_refl _)]
        simpa using ho1
      have HSFx := Lib.hid hSFx
      have HxD := Lib.hid hxd
      have HTd := Lib.hid hTd
      clear hU hSFx hxd hTd ho1
      generalize hx : d[k]?.getD z3 = x at *
      clear hx
      go_wp2
      go_loopw [9] (fun t ws => ∃ j : Nat, (a ≤ j ∧ j ≤ k) ∧ t = .int .i64 j ∧ OwC base ws (some ⟨g, 0, none⟩) n c (insT (d.take a) T x (d.drop (k + 1)) (j - a)) ∧ Hid (∀ y ∈ T.drop (j - a), key x < key y) ∧ w.grownBy ws (some g)) (fun t _ => (intOf t).toNat)
      case atStart => exact ⟨k, ⟨by omega, Nat.le_refl _⟩, rfl, oI, fun y hy => by rw [List.drop_of_length_le (by rw [HTl.out]; exact Nat.le_refl _)] at hy; simp at hy, hg1⟩
      case round =>
        obtain ⟨j, ⟨haj, hjk⟩, rfl, oj, HR, hgj⟩ := hrel
        clear oI hg1
        by_cases hja : j = a
        · have HF0 := Lib.hid (show ¬ a < j by omega)
          have HIN := Lib.hid (Srt.insert (p := []) (s := T) (x := x) (by simpa using HTs.out) (by simp) (by have := HR.out; rw [hja, Nat.sub_self, List.drop_zero] at this; exact this))
          have HJ := Lib.hid hja
          clear hja
          go_wp2
          have hF := HF0.out
          go_quiet (fail)
          go_wp2
          go_roundw
          case rel =>
            refine ⟨k + 1, x :: T, by omega, by go_num, by show _ = _; rw [List.length_cons, HTl.out]; omega, show Srt _ _ by simpa using HIN.out.1, ?_, ?_, gDrewN hgj _⟩
            · show SF _ _ _
              rw [HSFx.out]
              exact (by simpa using HIN.out.2 : SF key (x :: T) (T ++ [x])).trans (HTf.out.append (SF.refl _))
            · rw [HJ.out, Nat.sub_self] at oj
              have e : insT (d.take a) T x (d.drop (k + 1)) 0 = d.take a ++ (x :: T) ++ d.drop (k + 1) := by simp [insT]
              rw [e] at oj
              exact oj.kept (gDrewN (World.grownBy.refl _ (none : Option Nat)) _) (.inr (by simp [blkOf]))
          case measure => simp [intOf]; omega
        · obtain ⟨i, rfl⟩ : ∃ i, j = i + 1 := ⟨j - 1, by omega⟩
          have hq : i - a < T.length := by rw [HTl.out]; omega
          have e1 : i + 1 - a = (i - a) + 1 := by omega
          have hcx : (insT (d.take a) T x (d.drop (k + 1)) (i + 1 - a))[i + 1]?.getD z3 = x := by
            have := insT_at (P := d.take a) (T := T) (U := d.drop (k + 1)) (x := x) (q := i + 1 - a) (by omega)
            rw [hPl, show a + (i + 1 - a) = i + 1 by omega] at this; exact this
          have hcy : (insT (d.take a) T x (d.drop (k + 1)) (i + 1 - a))[i]?.getD z3 = T[i - a]?.getD z3 := by
            have := insT_below (P := d.take a) (T := T) (U := d.drop (k + 1)) (x := x) (q := i - a) hq
            rw [hPl, show a + (i - a) = i by omega, ← e1] at this; exact this
          have hsw : ((insT (d.take a) T x (d.drop (k + 1)) (i + 1 - a)).set (i + 1) (T[i - a]?.getD z3)).set i x = insT (d.take a) T x (d.drop (k + 1)) (i - a) := by
            have := insT_swap (P := d.take a) (T := T) (U := d.drop (k + 1)) (x := x) (q := i - a) hq
            rw [hPl, show a + (i - a) + 1 = i + 1 by omega, show a + (i - a) = i by omega, ← e1] at this; exact this
          have c1 := oj.cell_ (i + 1) (by omega)
          have c0 := oj.cell_ i (by omega)
          rw [hcx] at c1
          rw [hcy] at c0
          have f1 := oj.frozen_ ((i + 1) * 3)
          have f1b := oj.frozen_ ((i + 1) * 3 + 1)
          have f1c := oj.frozen_ ((i + 1) * 3 + 2)
          have f0 := oj.frozen_ (i * 3)
          have f0b := oj.frozen_ (i * 3 + 1)
          have f0c := oj.frozen_ (i * 3 + 2)
          have hgz := (oj.blk (g := g) rfl).2
          have hyT : T[i - a]?.getD z3 ∈ T := getD_mem z3 T _ hq
          have cc := fun w' => hC w' x (T[i - a]?.getD z3) HxD.out (HTd.out _ hyT)
          have HDs := Lib.hid (show T.drop (i - a) = (T[i - a]?.getD z3) :: T.drop (i + 1 - a) by rw [e1, List.drop_eq_getElem_cons hq]; simp [hq])
          have HTk := Lib.hid (show ∀ z ∈ T.take (i + 1 - a), key z ≤ key (T[i - a]?.getD z3) from fun z hz => by
            obtain ⟨u, hu, rfl⟩ := List.mem_iff_getElem.1 hz
            simp only [List.length_take] at hu
            by_cases e : u = i - a
            · subst e; simp [hq]
            · have := (List.pairwise_iff_getElem.1 HTs.out) u (i - a) (by omega) hq (by omega)
              simpa [hq] using this)
          clear hcx hcy hyT
          generalize T[i - a]?.getD z3 = y at *
          have Hsw := Lib.hid hsw
          have Hq := Lib.hid hq
          clear hsw e1 hq
          have hTN : a < i + 1 := by omega
          have hiI : (i : Int) < n := by omega
          have hi1I : (i : Int) + 1 < n := by omega
          obtain ⟨c0, c0b, c0c⟩ := c0
          obtain ⟨c1, c1b, c1c⟩ := c1
          have hap0 : ¬ i * 3 = (i + 1) * 3 := by omega
          have haq0 : ¬ (i + 1) * 3 = i * 3 := by omega
          have hap1 : ¬ i * 3 = (i + 1) * 3 + 1 := by omega
          have haq1 : ¬ (i + 1) * 3 + 1 = i * 3 := by omega
          have hap2 : ¬ i * 3 = (i + 1) * 3 + 2 := by omega
          have haq2 : ¬ (i + 1) * 3 + 2 = i * 3 := by omega
          have hap3 : ¬ i * 3 + 1 = (i + 1) * 3 := by omega
          have haq3 : ¬ (i + 1) * 3 = i * 3 + 1 := by omega
          have hap4 : ¬ i * 3 + 1 = (i + 1) * 3 + 1 := by omega
          have haq4 : ¬ (i + 1) * 3 + 1 = i * 3 + 1 := by omega
          have hap5 : ¬ i * 3 + 1 = (i + 1) * 3 + 2 := by omega
          have haq5 : ¬ (i + 1) * 3 + 2 = i * 3 + 1 := by omega
          have hap6 : ¬ i * 3 + 2 = (i + 1) * 3 := by omega
          have haq6 : ¬ (i + 1) * 3 = i * 3 + 2 := by omega
          have hap7 : ¬ i * 3 + 2 = (i + 1) * 3 + 1 := by omega
          have haq7 : ¬ (i + 1) * 3 + 1 = i * 3 + 2 := by omega
          have hap8 : ¬ i * 3 + 2 = (i + 1) * 3 + 2 := by omega
          have haq8 : ¬ (i + 1) * 3 + 2 = i * 3 + 2 := by omega
          by_cases hlt2 : key x < key y
          · have HRn := Lib.hid (show ∀ z ∈ T.drop (i - a), key x < key z from fun z hz => by
              rw [HDs.out] at hz
              rcases List.mem_cons.1 hz with rfl | hz
              · exact hlt2
              · exact HR.out z hz)
            go_wp2
            have hTI : (a : Int) < (i : Int) + 1 := by omega
            have hTD : decide ((a : Int) < (i : Int) + 1) = true := by simp; omega
            have h0i : (0 : Int) ≤ (i : Int) + 1 := by omega
            have hti : ((i : Int) + 1).toNat = i + 1 := by omega
            have hwi : IntKind.i64.wrap ((i : Int) + 1 - 1) = (i : Int) := by rw [IntWalk.i64_in _ (by omega)]; omega
            have hwi2 : IntKind.i64.wrap (i : Int) = (i : Int) := IntWalk.i64_in _ (by omega)
            go_still_tail 14, (by kernel_rfl)
            change wpList _ _ _ _ _ (World.drew _)
            go_wp2_with ((go_at_call 101; ((with_reducible refine (cc _).mono ?_); rintro e w' ⟨rv, hr, rfl, xq, rfl⟩; (have hv := hr.1 hlt2))))
            have oj2 := oj.after xq
            have hgj2 := grown_after hgj xq
            have s1 := oj2.storedC (i + 1) (by omega) y
            have s2 := s1.1.storedC i (by omega) x
            rw [Hsw.out] at s2
            have S1 := Lib.hid s1.2
            have S2 := Lib.hid s2
            clear s1 s2
            go_wp2
            go_region
            all_goals go_wp2
            go_roundw
            case rel =>
              have hgf := (hgj2.trans S1.out).trans S2.out.2
              exact ⟨i, by omega, by go_num, S2.out.1.below (bDrew (Below.refl _ _)), HRn, gDrew hgf⟩
            case measure => simp [intOf]
          · have hbw : key y ≤ key x := by omega
            have HIN := Lib.hid (Srt.insert (p := T.take (i + 1 - a)) (s := T.drop (i + 1 - a)) (x := x) (by rw [List.take_append_drop]; exact HTs.out) (fun z hz => by have := HTk.out z hz; omega) HR.out)
            go_wp2
            have hTI : (a : Int) < (i : Int) + 1 := by omega
            have hTD : decide ((a : Int) < (i : Int) + 1) = true := by simp; omega
            have h0i : (0 : Int) ≤ (i : Int) + 1 := by omega
            have hti : ((i : Int) + 1).toNat = i + 1 := by omega
            have hwi : IntKind.i64.wrap ((i : Int) + 1 - 1) = (i : Int) := by rw [IntWalk.i64_in _ (by omega)]; omega
            have hwi2 : IntKind.i64.wrap (i : Int) = (i : Int) := IntWalk.i64_in _ (by omega)
            go_still_tail 14, (by kernel_rfl)
            change wpList _ _ _ _ _ (World.drew _)
            go_wp2_with ((go_at_call 101; ((with_reducible refine (cc _).mono ?_); rintro e w' ⟨rv, hr, rfl, xq, rfl⟩; (have hv := hr.2 hbw))))
            have oj2 := oj.after xq
            have hgj2 := grown_after hgj xq
            go_wp2
            go_roundw
            case rel =>
              refine ⟨k + 1, T.take (i + 1 - a) ++ x :: T.drop (i + 1 - a), by omega, by go_num, ?_, HIN.out.1, ?_, ?_, hgj2⟩
              · show _ = _
                have h1 := congrArg List.length (List.take_append_drop (i + 1 - a) T)
                simp only [List.length_append] at h1
                rw [List.length_append, List.length_cons]
                have := HTl.out; omega
              · show SF _ _ _
                rw [HSFx.out]
                have h1 := HIN.out.2
                rw [List.take_append_drop] at h1
                exact h1.trans (HTf.out.append (SF.refl _))
              · have e : insT (d.take a) T x (d.drop (k + 1)) (i + 1 - a) = d.take a ++ (T.take (i + 1 - a) ++ x :: T.drop (i + 1 - a)) ++ d.drop (k + 1) := by simp [insT]
                rw [e] at oj2
                exact oj2
            case measure => simp [intOf]; omega
    · have hkb : k = b := by omega
      subst hkb
      go_wp2
      go_end0
      exact ⟨rfl, T, HTs.out, HTf.out, ho1, hg1⟩
end Go.Proofs.YtpjaiihkgeabiaaDoor
