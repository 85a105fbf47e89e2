/- The library's symMerge of cues in general. Conditions: lengths below 2^40. -/
import Derived.Test.YtpjaiihkgeabiaaDoorStableC3
set_option linter.unusedVariables false
set_option linter.unusedSimpArgs false
set_option maxRecDepth 100000
namespace Go.Proofs.YtpjaiihkgeabiaaDoor
open Go.RowKit
theorem mergeC_parts {key : T3 → Int} {X1 X2 Y1 Y2 T1 T2 : List T3} (hX : Srt key (X1 ++ X2)) (hY : Srt key (Y1 ++ Y2)) (hA : ∀ x ∈ X1, ∀ y ∈ Y2, key x ≤ key y) (hB : ∀ y ∈ Y1, ∀ x ∈ X2, key y < key x)
    (h1 : Srt key T1) (h1' : SF key T1 (X1 ++ Y1)) (h2 : Srt key T2) (h2' : SF key T2 (X2 ++ Y2)) : Srt key (T1 ++ T2) ∧ SF key (T1 ++ T2) (X1 ++ X2 ++ (Y1 ++ Y2)) := by
  obtain ⟨x1, x2, x3⟩ := hX.parts
  obtain ⟨y1, y2, y3⟩ := hY.parts
  constructor
  · refine Srt.append h1 h2 (fun u hu v hv => ?_)
    have hu := List.mem_append.1 (h1'.mem hu)
    have hv := List.mem_append.1 (h2'.mem hv)
    rcases hu with hu | hu <;> rcases hv with hv | hv
    · exact x3 u hu v hv
    · exact hA u hu v hv
    · have := hB u hu v hv; omega
    · exact y3 u hu v hv
  · have e1 : SF key (T1 ++ T2) (X1 ++ Y1 ++ (X2 ++ Y2)) := h1'.append h2'
    have e2 : SF key (Y1 ++ X2) (X2 ++ Y1) := SF.swap (fun a ha b hb => by have := hB b hb a ha; omega)
    have e3 : SF key (X1 ++ (Y1 ++ X2) ++ Y2) (X1 ++ (X2 ++ Y1) ++ Y2) := ((SF.refl X1).append e2).append (SF.refl Y2)
    refine e1.trans ?_
    simpa [List.append_assoc] using e3
def SymPostC (key : T3 → Int) (base g n c : Nat) (P S L : List T3) (w : World) (e : Ending) (w' : World) : Prop := e = .returned (.tuple #[]) ∧ ∃ T, Srt key T ∧ SF key T L ∧ OwC base w' (some ⟨g, 0, none⟩) n c (P ++ T ++ S) ∧ w.grownBy w' (some g)
def SymOkC (key : T3 → Int) (p : Addr) (base g n c K : Nat) : Prop := ∀ (w : World) (P X Y S : List T3) (a m b : Nat), OwC base w (some ⟨g, 0, none⟩) n c (P ++ X ++ Y ++ S) → P.length = a → a + X.length = m → m + Y.length = b → 0 < X.length → 0 < Y.length → X.length + Y.length < K → Srt key X → Srt key Y → CmpC key (P ++ X ++ Y ++ S) →
  Calls Tryd.prog 126 #[.slice (some ⟨g, 0, none⟩) n c, .int .i64 a, .int .i64 m, .int .i64 b, (.func (.func 101) #[] #[])] w (SymPostC key base g n c P S (X ++ Y) w)
section
variable {P X Y S : List T3}
theorem catC_x {a i : Nat} (ha : P.length = a) (hi : a ≤ i) (hx : i < a + X.length) : (P ++ X ++ Y ++ S)[i]?.getD z3 = X[i - a]?.getD z3 := by
  rw [List.append_assoc, List.append_assoc, List.getElem?_append_right (by omega), List.getElem?_append_left (by omega), ha]
theorem catC_y {m i : Nat} (hm : P.length + X.length = m) (hi : m ≤ i) (hy : i < m + Y.length) : (P ++ X ++ Y ++ S)[i]?.getD z3 = Y[i - m]?.getD z3 := by
  rw [List.append_assoc, List.getElem?_append_right (by simp; omega), List.getElem?_append_left (by simp; omega)]
  simp [hm]
end
set_option maxHeartbeats 4000000 in
theorem symGC_any (w : World) (base g n c : Nat) (P X Y S : List T3) (a m b : Nat) (key : T3 → Int) (p : Addr) (ho : OwC base w (some ⟨g, 0, none⟩) n c (P ++ X ++ Y ++ S)) (hn : n ≤ 1099511627776) (ha : P.length = a) (hm : a + X.length = m) (hb : m + Y.length = b) (hx2 : 2 ≤ X.length) (hy2 : 2 ≤ Y.length) (hX : Srt key X) (hY : Srt key Y) (hC : CmpC key (P ++ X ++ Y ++ S)) (hIH : SymOkC key p base g n c (X.length + Y.length)) :
    Calls Tryd.prog 126 #[.slice (some ⟨g, 0, none⟩) n c, .int .i64 a, .int .i64 m, .int .i64 b, (.func (.func 101) #[] #[])] w (SymPostC key base g n c P S (X ++ Y) w) := by
  have hl := ho.len
  simp only [List.length_append] at hl
  have hXm : ∀ r, r < X.length → X[r]?.getD z3 ∈ P ++ X ++ Y ++ S := fun r hr => by have := getD_mem z3 X r hr; simp [this]
  have hYm : ∀ r, r < Y.length → Y[r]?.getD z3 ∈ P ++ X ++ Y ++ S := fun r hr => by have := getD_mem z3 Y r hr; simp [this]
  have hne1 : ((m : Int) - a == 1) = false := by simp; omega
  have hne2 : ((b : Int) - m == 1) = false := by simp; omega
  obtain ⟨M, hM⟩ : ∃ M, (a + b) / 2 = M := ⟨_, rfl⟩
  have hMI : ((a : Int) + b) / 2 = (M : Int) := by omega
  have hM1 : 2 * M ≤ a + b := by omega
  have hM2 : a + b ≤ 2 * M + 1 := by omega
  have hp1 : ((M : Int) + m) - 1 = ((M + m - 1 : Nat) : Int) := by omega
  clear hM
  by_cases hmM : M < m
  · obtain ⟨s0, hs0⟩ : ∃ s0, M + m - b = s0 := ⟨_, rfl⟩
    obtain ⟨r0, hr0⟩ : ∃ r0, M = r0 := ⟨_, rfl⟩
    have hsI : ((M : Int) + m) - b = (s0 : Int) := by omega
    have hs1 : s0 + b ≤ M + m := by omega
    have hs2 : M + m ≤ s0 + b := by omega
    have hr1 : r0 ≤ M := by omega
    have hr2 : M ≤ r0 := by omega
    have HR0 := Lib.hid hr0
    clear hs0 hr0
    have hmI : (M : Int) < m := by omega
    go_enter Tryd.func126, Tryd.ntmps126
    go_wp2
    go_loopw [20, 21] (fun u v wr => ∃ s r : Nat, (s0 ≤ s ∧ s ≤ r ∧ r ≤ r0) ∧ u = .int .i64 s ∧ v = .int .i64 r ∧ Hid (s0 < s → key (X[s - 1 - a]?.getD z3) ≤ key (Y[M - s]?.getD z3)) ∧ Hid (r < r0 → key (Y[M - 1 - r]?.getD z3) < key (X[r - a]?.getD z3)) ∧ OwC base wr (some ⟨g, 0, none⟩) n c (P ++ X ++ Y ++ S) ∧ w.grownBy wr (some g)) (fun u v _ => (intOf v).toNat - (intOf u).toNat)
    case atStart => exact ⟨s0, r0, by omega, rfl, by rw [HR0.out], fun h => by omega, fun h => by omega, ho, World.grownBy.refl _ _⟩
    case round =>
      obtain ⟨s, r, ⟨hs0, hsr, hrr⟩, rfl, rfl, HIA, HIB, oi, hgi⟩ := hrel
      by_cases hlt : s < r
      · obtain ⟨cc0, hcc⟩ : ∃ cc0, (s + r) / 2 = cc0 := ⟨_, rfl⟩
        have hcI : ((s : Int) + r) / 2 = (cc0 : Int) := by omega
        have hcb : s ≤ cc0 ∧ cc0 < r := by omega
        clear hcc
        have hpc : ((M + m - 1 : Nat) : Int) - cc0 = ((M + m - 1 - cc0 : Nat) : Int) := by omega
        have hx1 : cc0 - a < X.length := by omega
        have hy1 : M - 1 - cc0 < Y.length := by omega
        have c0 := oi.cell_ cc0 (by omega)
        have c1 := oi.cell_ (M + m - 1 - cc0) (by omega)
        rw [catC_x ha (by omega) (by omega)] at c0
        rw [catC_y (by omega : P.length + X.length = m) (by omega) (by omega), show M + m - 1 - cc0 - m = M - 1 - cc0 by omega] at c1
        have cc := fun w' => hC w' (Y[M - 1 - cc0]?.getD z3) (X[cc0 - a]?.getD z3) (hYm _ hy1) (hXm _ hx1)
        have HXe := Lib.hid (show X[cc0 + 1 - 1 - a]?.getD z3 = X[cc0 - a]?.getD z3 by rw [Nat.add_sub_cancel])
        have HYe := Lib.hid (show Y[M - (cc0 + 1)]?.getD z3 = Y[M - 1 - cc0]?.getD z3 by rw [show M - (cc0 + 1) = M - 1 - cc0 by omega])
        obtain ⟨yv, hyv⟩ : ∃ yv, Y[M - 1 - cc0]?.getD z3 = yv := ⟨_, rfl⟩
        obtain ⟨xv, hxv⟩ : ∃ xv, X[cc0 - a]?.getD z3 = xv := ⟨_, rfl⟩
        unfold Hid at HXe HYe
        rw [hxv] at c0 HXe
        rw [hyv] at c1 HYe
        simp only [hxv, hyv] at cc
        have HXv := Lib.hid hxv
        have HYv := Lib.hid hyv
        replace HXe := Lib.hid HXe
        replace HYe := Lib.hid HYe
        clear hxv hyv
        obtain ⟨c0, c0b, c0c⟩ := c0
        obtain ⟨c1, c1b, c1c⟩ := c1
        have hcN : (cc0 : Int) < n := by omega
        have hpN : ((M + m - 1 - cc0 : Nat) : Int) < n := by omega
        by_cases hyx : key yv < key xv
        · have hok := hyx
          go_wp2
          have hwp : IntKind.i64.wrap (((M + m - 1 - cc0 : Nat) : Int)) = ((M + m - 1 - cc0 : Nat) : Int) := IntWalk.i64_in _ (by omega)
          have hwp2 : IntKind.i64.wrap (((M + m - 1 : Nat) : Int) - cc0) = ((M + m - 1 - cc0 : Nat) : Int) := by rw [IntWalk.i64_in _ (by omega)]; omega
          go_still_tail 11, (by kernel_rfl)
          change wpList _ _ _ _ _ (World.drew _)
          go_wp2_with ((go_at_call 101; ((with_reducible refine (cc _).mono ?_); rintro e w' ⟨rv, hr, rfl, xq, rfl⟩; (have hv := hr.1 hok))))
          go_wp2
          go_roundw
          case rel =>
            have okk := oi.after xq
            have hgk := grown_after hgi xq
            have hB2 : cc0 < r0 → key (Y[M - 1 - cc0]?.getD z3) < key (X[cc0 - a]?.getD z3) := fun _ => by rw [HXv.out, HYv.out]; exact hyx
            first | exact ⟨s, cc0, by omega, rfl, rfl, HIA, hB2, okk, hgk⟩ | ((repeat apply Exists.intro); exact ⟨⟨s, cc0, by omega, rfl, rfl, HIA, hB2, okk, hgk⟩, rfl⟩)
          case measure => simp [intOf]; omega
        · have hle : key xv ≤ key yv := by omega
          go_wp2
          have hwp : IntKind.i64.wrap (((M + m - 1 - cc0 : Nat) : Int)) = ((M + m - 1 - cc0 : Nat) : Int) := IntWalk.i64_in _ (by omega)
          have hwp2 : IntKind.i64.wrap (((M + m - 1 : Nat) : Int) - cc0) = ((M + m - 1 - cc0 : Nat) : Int) := by rw [IntWalk.i64_in _ (by omega)]; omega
          go_still_tail 11, (by kernel_rfl)
          change wpList _ _ _ _ _ (World.drew _)
          go_wp2_with ((go_at_call 101; ((with_reducible refine (cc _).mono ?_); rintro e w' ⟨rv, hr, rfl, xq, rfl⟩; (have hv := hr.2 hle); (have hv4 : decide (rv < 0) = false := by simp; omega))))
          go_wp2
          go_roundw
          case rel =>
            have okk := oi.after xq
            have hgk := grown_after hgi xq
            have hA2 : s0 < cc0 + 1 → key (X[cc0 + 1 - 1 - a]?.getD z3) ≤ key (Y[M - (cc0 + 1)]?.getD z3) := fun _ => by rw [HXe.out, HYe.out]; exact hle
            first | exact ⟨cc0 + 1, r, by omega, by go_num, rfl, hA2, HIB, okk, hgk⟩ | ((repeat apply Exists.intro); exact ⟨⟨cc0 + 1, r, by omega, by go_num, rfl, hA2, HIB, okk, hgk⟩, rfl⟩)
          case measure => simp [intOf]; omega
      · obtain rfl : r = s := by omega
        have has : a ≤ r := by omega
        have hsm : r ≤ m := by omega
        have hsM : r ≤ M := by omega
        have hMs : M - r ≤ Y.length := by omega
        obtain ⟨E, hE⟩ : ∃ E, M + m - r = E := ⟨_, rfl⟩
        have hEI : ((M : Int) + m) - r = (E : Int) := by omega
        have hE1 : E + r ≤ M + m := by omega
        have hE2 : M + m ≤ E + r := by omega
        clear hE
        have lX1 : (X.take (r - a)).length = r - a := by rw [List.length_take]; omega
        have lX2 : (X.drop (r - a)).length = m - r := by rw [List.length_drop]; omega
        have lY1 : (Y.take (M - r)).length = M - r := by rw [List.length_take]; omega
        have lY2 : (Y.drop (M - r)).length = b - E := by rw [List.length_drop]; omega
        have hA : ∀ x ∈ X.take (r - a), ∀ y ∈ Y.drop (M - r), key x ≤ key y := fun x hx y hy => by
          have n1 : 0 < r - a := by rcases Nat.eq_zero_or_pos (r - a) with h | h; · rw [h] at hx; simp at hx
                                    · exact h
          have n2 : M - r < Y.length := by
            rcases Nat.lt_or_ge (M - r) Y.length with h | h
            · exact h
            · rw [List.drop_of_length_le h] at hy; simp at hy
          have h1 := HIA.out (by omega)
          have h2 := hX.uptoC (q := r - 1 - a) (by omega) x (by rw [show r - 1 - a + 1 = r - a by omega]; exact hx)
          have h3 := hY.fromC n2 y hy
          omega
        have hB : ∀ y ∈ Y.take (M - r), ∀ x ∈ X.drop (r - a), key y < key x := fun y hy x hx => by
          have n1 : 0 < M - r := by rcases Nat.eq_zero_or_pos (M - r) with h | h; · rw [h] at hy; simp at hy
                                    · exact h
          have n2 : r - a < X.length := by
            rcases Nat.lt_or_ge (r - a) X.length with h | h
            · exact h
            · rw [List.drop_of_length_le h] at hx; simp at hx
          have h1 := HIB.out (by omega)
          have h2 := hY.uptoC (q := M - 1 - r) (by omega) y (by rw [show M - 1 - r + 1 = M - r by omega]; exact hy)
          have h3 := hX.fromC n2 x hx
          omega
        have eX : X.take (r - a) ++ X.drop (r - a) = X := List.take_append_drop _ _
        have eY : Y.take (M - r) ++ Y.drop (M - r) = Y := List.take_append_drop _ _
        have hX' := hX
        have hY' := hY
        rw [← eX] at hX'
        rw [← eY] at hY'
        have HMP := Lib.hid (fun T1 T2 h1 h1' h2 h2' => mergeC_parts (key := key) (T1 := T1) (T2 := T2) hX' hY' hA hB h1 h1' h2 h2')
        have hsx1 := hX'.parts.1
        have hsx2 := hX'.parts.2.1
        have hsy1 := hY'.parts.1
        have hsy2 := hY'.parts.2.1
        clear hA hB hX' hY' HIA HIB
        have eL : P ++ X ++ Y ++ S = P ++ (X.take (r - a) ++ X.drop (r - a)) ++ (Y.take (M - r) ++ Y.drop (M - r)) ++ S := by rw [eX, eY]
        have eXY : X ++ Y = X.take (r - a) ++ X.drop (r - a) ++ (Y.take (M - r) ++ Y.drop (M - r)) := by rw [eX, eY]
        rw [eL] at oi hC
        have HXY := Lib.hid eXY
        clear ho hXm hYm eL eXY eX eY hX hY
        generalize X.take (r - a) = X1 at *
        generalize X.drop (r - a) = X2 at *
        generalize Y.take (M - r) = Y1 at *
        generalize Y.drop (M - r) = Y2 at *
        have HML := Lib.hid (show ∀ z ∈ P ++ X1 ++ Y1 ++ (X2 ++ Y2 ++ S), z ∈ P ++ (X1 ++ X2) ++ (Y1 ++ Y2) ++ S from fun z hz => by simp at hz ⊢; rcases hz with h | h | h | h | h | h <;> simp [h])
        have HMR := Lib.hid (show ∀ T1, SF key T1 (X1 ++ Y1) → ∀ z ∈ P ++ T1 ++ X2 ++ Y2 ++ S, z ∈ P ++ (X1 ++ X2) ++ (Y1 ++ Y2) ++ S from fun T1 hT z hz => by
          simp at hz ⊢
          rcases hz with h | h | h | h | h
          · simp [h]
          · have := List.mem_append.1 (hT.mem h); rcases this with h | h <;> simp [h]
          · simp [h]
          · simp [h]
          · simp [h])
        by_cases A1 : r < m
        · by_cases A2 : r < M
          · by_cases A3 : a < r
            · by_cases A4 : E < b
              · have B1 : m < E := by omega
                have B2 : M < E := by omega
                have cR := rotateC_any wr base g n c _ (P ++ X1) X2 Y1 (Y2 ++ S) r m E (.func (.func 101) #[] #[]) oi hn (by simp) (by rw [List.length_append]; omega) (by omega) (by omega) (by omega) (by omega)
                have cL := fun (W : World) (o : OwC base W (some ⟨g, 0, none⟩) n c (P ++ X1 ++ Y1 ++ (X2 ++ Y2 ++ S))) (h : w.grownBy W (some g)) => hIH W P X1 Y1 (X2 ++ Y2 ++ S) a r M o ha (by omega) (by omega) (by omega) (by omega) (by omega) hsx1 hsy1 (hC.sub HML.out)
                have cQ := fun (W : World) (T1 : List T3) (hT : SF key T1 (X1 ++ Y1)) (o : OwC base W (some ⟨g, 0, none⟩) n c (P ++ T1 ++ X2 ++ Y2 ++ S)) (h : w.grownBy W (some g)) => hIH W (P ++ T1) X2 Y2 S M E b o (by have h5 := hT.len; rw [List.length_append] at h5; rw [List.length_append]; omega) (by omega) (by omega) (by omega) (by omega) (by omega) hsx2 hsy2 (hC.sub (HMR.out T1 hT))
                go_wp2_with (first | (go_at_call 133; ((with_reducible refine (cR).mono ?_); rintro e w' ⟨rfl, o1, hg1⟩; (have o1' : OwC base w' (some ⟨g, 0, none⟩) n c (P ++ X1 ++ Y1 ++ (X2 ++ Y2 ++ S)) := by simpa using o1); (have hg1' := hgi.trans hg1))) | (go_at_call 126; ((with_reducible refine (cL _ o1' hg1').mono ?_); rintro e w' ⟨rfl, T1, hT1, hF1, o2, hg2⟩; (have o2' : OwC base w' (some ⟨g, 0, none⟩) n c (P ++ T1 ++ X2 ++ Y2 ++ S) := by simpa using o2); (have hg2' := hg1'.trans hg2))) | (go_at_call 126; ((with_reducible refine (cQ _ _ hF1 o2' hg2').mono ?_); rintro e w' ⟨rfl, T2, hT2, hF2, o3, hg3⟩; (have o3' : OwC base w' (some ⟨g, 0, none⟩) n c (P ++ (T1 ++ T2) ++ S) := by simpa using o3); (have hg3' := hg2'.trans hg3))))
                go_end0
                have hmp := HMP.out T1 T2 hT1 hF1 hT2 hF2
                exact ⟨rfl, T1 ++ T2, hmp.1, by rw [HXY.out]; exact hmp.2, o3', hg3'⟩
              · have B1 : m < E := by omega
                have B2 : M < E := by omega
                have z2 : Y2 = [] := List.eq_nil_of_length_eq_zero (by omega)
                have hT2 : Srt key (X2 ++ Y2) := by rw [z2]; simpa using hsx2
                have hF2 : SF key (X2 ++ Y2) (X2 ++ Y2) := SF.refl _
                clear z2
                have cR := rotateC_any wr base g n c _ (P ++ X1) X2 Y1 (Y2 ++ S) r m E (.func (.func 101) #[] #[]) oi hn (by simp) (by rw [List.length_append]; omega) (by omega) (by omega) (by omega) (by omega)
                have cL := fun (W : World) (o : OwC base W (some ⟨g, 0, none⟩) n c (P ++ X1 ++ Y1 ++ (X2 ++ Y2 ++ S))) (h : w.grownBy W (some g)) => hIH W P X1 Y1 (X2 ++ Y2 ++ S) a r M o ha (by omega) (by omega) (by omega) (by omega) (by omega) hsx1 hsy1 (hC.sub HML.out)
                go_wp2_with (first | (go_at_call 133; ((with_reducible refine (cR).mono ?_); rintro e w' ⟨rfl, o1, hg1⟩; (have o1' : OwC base w' (some ⟨g, 0, none⟩) n c (P ++ X1 ++ Y1 ++ (X2 ++ Y2 ++ S)) := by simpa using o1); (have hg1' := hgi.trans hg1))) | (go_at_call 126; ((with_reducible refine (cL _ o1' hg1').mono ?_); rintro e w' ⟨rfl, T1, hT1, hF1, o2, hg2⟩; (have o2' : OwC base w' (some ⟨g, 0, none⟩) n c (P ++ T1 ++ X2 ++ Y2 ++ S) := by simpa using o2); (have hg2' := hg1'.trans hg2); (have o3' : OwC base w' (some ⟨g, 0, none⟩) n c (P ++ (T1 ++ (X2 ++ Y2)) ++ S) := by simpa using o2'); (have hg3' := hg2'))))
                go_end0
                have hmp := HMP.out T1 (X2 ++ Y2) hT1 hF1 hT2 hF2
                exact ⟨rfl, T1 ++ (X2 ++ Y2), hmp.1, by rw [HXY.out]; exact hmp.2, o3', hg3'⟩
            · by_cases A4 : E < b
              · have B1 : m < E := by omega
                have B2 : M < E := by omega
                have z1 : X1 = [] := List.eq_nil_of_length_eq_zero (by omega)
                have hT1 : Srt key (X1 ++ Y1) := by rw [z1]; simpa using hsy1
                have hF1 : SF key (X1 ++ Y1) (X1 ++ Y1) := SF.refl _
                clear z1
                have cR := rotateC_any wr base g n c _ (P ++ X1) X2 Y1 (Y2 ++ S) r m E (.func (.func 101) #[] #[]) oi hn (by simp) (by rw [List.length_append]; omega) (by omega) (by omega) (by omega) (by omega)
                have cQ := fun (W : World) (T1 : List T3) (hT : SF key T1 (X1 ++ Y1)) (o : OwC base W (some ⟨g, 0, none⟩) n c (P ++ T1 ++ X2 ++ Y2 ++ S)) (h : w.grownBy W (some g)) => hIH W (P ++ T1) X2 Y2 S M E b o (by have h5 := hT.len; rw [List.length_append] at h5; rw [List.length_append]; omega) (by omega) (by omega) (by omega) (by omega) (by omega) hsx2 hsy2 (hC.sub (HMR.out T1 hT))
                go_wp2_with (first | (go_at_call 133; ((with_reducible refine (cR).mono ?_); rintro e w' ⟨rfl, o1, hg1⟩; (have o1' : OwC base w' (some ⟨g, 0, none⟩) n c (P ++ X1 ++ Y1 ++ (X2 ++ Y2 ++ S)) := by simpa using o1); (have hg1' := hgi.trans hg1); (have o2' : OwC base w' (some ⟨g, 0, none⟩) n c (P ++ (X1 ++ Y1) ++ X2 ++ Y2 ++ S) := by simpa using o1'); (have hg2' := hg1'))) | (go_at_call 126; ((with_reducible refine (cQ _ _ hF1 o2' hg2').mono ?_); rintro e w' ⟨rfl, T2, hT2, hF2, o3, hg3⟩; (have o3' : OwC base w' (some ⟨g, 0, none⟩) n c (P ++ ((X1 ++ Y1) ++ T2) ++ S) := by simpa using o3); (have hg3' := hg2'.trans hg3))))
                go_end0
                have hmp := HMP.out (X1 ++ Y1) T2 hT1 hF1 hT2 hF2
                exact ⟨rfl, (X1 ++ Y1) ++ T2, hmp.1, by rw [HXY.out]; exact hmp.2, o3', hg3'⟩
              · have B1 : m < E := by omega
                have B2 : M < E := by omega
                have z1 : X1 = [] := List.eq_nil_of_length_eq_zero (by omega)
                have hT1 : Srt key (X1 ++ Y1) := by rw [z1]; simpa using hsy1
                have hF1 : SF key (X1 ++ Y1) (X1 ++ Y1) := SF.refl _
                clear z1
                have z2 : Y2 = [] := List.eq_nil_of_length_eq_zero (by omega)
                have hT2 : Srt key (X2 ++ Y2) := by rw [z2]; simpa using hsx2
                have hF2 : SF key (X2 ++ Y2) (X2 ++ Y2) := SF.refl _
                clear z2
                have cR := rotateC_any wr base g n c _ (P ++ X1) X2 Y1 (Y2 ++ S) r m E (.func (.func 101) #[] #[]) oi hn (by simp) (by rw [List.length_append]; omega) (by omega) (by omega) (by omega) (by omega)
                go_wp2_with (first | (go_at_call 133; ((with_reducible refine (cR).mono ?_); rintro e w' ⟨rfl, o1, hg1⟩; (have o1' : OwC base w' (some ⟨g, 0, none⟩) n c (P ++ X1 ++ Y1 ++ (X2 ++ Y2 ++ S)) := by simpa using o1); (have hg1' := hgi.trans hg1); (have o2' : OwC base w' (some ⟨g, 0, none⟩) n c (P ++ (X1 ++ Y1) ++ X2 ++ Y2 ++ S) := by simpa using o1'); (have hg2' := hg1'); (have o3' : OwC base w' (some ⟨g, 0, none⟩) n c (P ++ ((X1 ++ Y1) ++ (X2 ++ Y2)) ++ S) := by simpa using o2'); (have hg3' := hg2'))))
                go_end0
                have hmp := HMP.out (X1 ++ Y1) (X2 ++ Y2) hT1 hF1 hT2 hF2
                exact ⟨rfl, (X1 ++ Y1) ++ (X2 ++ Y2), hmp.1, by rw [HXY.out]; exact hmp.2, o3', hg3'⟩
          · by_cases A3 : a < r
            · by_cases A4 : E < b
              · have B1 : ¬ m < E := by omega
                have B2 : M < E := by omega
                have z1 : Y1 = [] := List.eq_nil_of_length_eq_zero (by omega)
                have hT1 : Srt key (X1 ++ Y1) := by rw [z1]; simpa using hsx1
                have hF1 : SF key (X1 ++ Y1) (X1 ++ Y1) := SF.refl _
                clear z1
                have o1' : OwC base wr (some ⟨g, 0, none⟩) n c (P ++ X1 ++ Y1 ++ (X2 ++ Y2 ++ S)) := by
                  have z3 : Y1 = [] := List.eq_nil_of_length_eq_zero (by omega)
                  rw [z3] at oi ⊢; simpa using oi
                have hg1' := hgi
                have cQ := fun (W : World) (T1 : List T3) (hT : SF key T1 (X1 ++ Y1)) (o : OwC base W (some ⟨g, 0, none⟩) n c (P ++ T1 ++ X2 ++ Y2 ++ S)) (h : w.grownBy W (some g)) => hIH W (P ++ T1) X2 Y2 S M E b o (by have h5 := hT.len; rw [List.length_append] at h5; rw [List.length_append]; omega) (by omega) (by omega) (by omega) (by omega) (by omega) hsx2 hsy2 (hC.sub (HMR.out T1 hT))
                have o2' : OwC base wr (some ⟨g, 0, none⟩) n c (P ++ (X1 ++ Y1) ++ X2 ++ Y2 ++ S) := by simpa using o1'
                have hg2' := hg1'
                go_wp2_with (first | (go_at_call 126; ((with_reducible refine (cQ _ _ hF1 o2' hg2').mono ?_); rintro e w' ⟨rfl, T2, hT2, hF2, o3, hg3⟩; (have o3' : OwC base w' (some ⟨g, 0, none⟩) n c (P ++ ((X1 ++ Y1) ++ T2) ++ S) := by simpa using o3); (have hg3' := hg2'.trans hg3))))
                go_end0
                have hmp := HMP.out (X1 ++ Y1) T2 hT1 hF1 hT2 hF2
                exact ⟨rfl, (X1 ++ Y1) ++ T2, hmp.1, by rw [HXY.out]; exact hmp.2, o3', hg3'⟩
              · have B1 : ¬ m < E := by omega
                have B2 : M < E := by omega
                have z1 : Y1 = [] := List.eq_nil_of_length_eq_zero (by omega)
                have hT1 : Srt key (X1 ++ Y1) := by rw [z1]; simpa using hsx1
                have hF1 : SF key (X1 ++ Y1) (X1 ++ Y1) := SF.refl _
                clear z1
                have z2 : Y2 = [] := List.eq_nil_of_length_eq_zero (by omega)
                have hT2 : Srt key (X2 ++ Y2) := by rw [z2]; simpa using hsx2
                have hF2 : SF key (X2 ++ Y2) (X2 ++ Y2) := SF.refl _
                clear z2
                have o1' : OwC base wr (some ⟨g, 0, none⟩) n c (P ++ X1 ++ Y1 ++ (X2 ++ Y2 ++ S)) := by
                  have z3 : Y1 = [] := List.eq_nil_of_length_eq_zero (by omega)
                  rw [z3] at oi ⊢; simpa using oi
                have hg1' := hgi
                have o2' : OwC base wr (some ⟨g, 0, none⟩) n c (P ++ (X1 ++ Y1) ++ X2 ++ Y2 ++ S) := by simpa using o1'
                have hg2' := hg1'
                have o3' : OwC base wr (some ⟨g, 0, none⟩) n c (P ++ ((X1 ++ Y1) ++ (X2 ++ Y2)) ++ S) := by simpa using o2'
                have hg3' := hg2'
                go_wp2
                go_end0
                have hmp := HMP.out (X1 ++ Y1) (X2 ++ Y2) hT1 hF1 hT2 hF2
                exact ⟨rfl, (X1 ++ Y1) ++ (X2 ++ Y2), hmp.1, by rw [HXY.out]; exact hmp.2, o3', hg3'⟩
            · by_cases A4 : E < b
              · have B1 : ¬ m < E := by omega
                have B2 : M < E := by omega
                have z1 : X1 = [] := List.eq_nil_of_length_eq_zero (by omega)
                have hT1 : Srt key (X1 ++ Y1) := by rw [z1]; simpa using hsy1
                have hF1 : SF key (X1 ++ Y1) (X1 ++ Y1) := SF.refl _
                clear z1
                have o1' : OwC base wr (some ⟨g, 0, none⟩) n c (P ++ X1 ++ Y1 ++ (X2 ++ Y2 ++ S)) := by
                  have z3 : Y1 = [] := List.eq_nil_of_length_eq_zero (by omega)
                  rw [z3] at oi ⊢; simpa using oi
                have hg1' := hgi
                have cQ := fun (W : World) (T1 : List T3) (hT : SF key T1 (X1 ++ Y1)) (o : OwC base W (some ⟨g, 0, none⟩) n c (P ++ T1 ++ X2 ++ Y2 ++ S)) (h : w.grownBy W (some g)) => hIH W (P ++ T1) X2 Y2 S M E b o (by have h5 := hT.len; rw [List.length_append] at h5; rw [List.length_append]; omega) (by omega) (by omega) (by omega) (by omega) (by omega) hsx2 hsy2 (hC.sub (HMR.out T1 hT))
                have o2' : OwC base wr (some ⟨g, 0, none⟩) n c (P ++ (X1 ++ Y1) ++ X2 ++ Y2 ++ S) := by simpa using o1'
                have hg2' := hg1'
                go_wp2_with (first | (go_at_call 126; ((with_reducible refine (cQ _ _ hF1 o2' hg2').mono ?_); rintro e w' ⟨rfl, T2, hT2, hF2, o3, hg3⟩; (have o3' : OwC base w' (some ⟨g, 0, none⟩) n c (P ++ ((X1 ++ Y1) ++ T2) ++ S) := by simpa using o3); (have hg3' := hg2'.trans hg3))))
                go_end0
                have hmp := HMP.out (X1 ++ Y1) T2 hT1 hF1 hT2 hF2
                exact ⟨rfl, (X1 ++ Y1) ++ T2, hmp.1, by rw [HXY.out]; exact hmp.2, o3', hg3'⟩
              · have B1 : ¬ m < E := by omega
                have B2 : M < E := by omega
                have z1 : X1 = [] := List.eq_nil_of_length_eq_zero (by omega)
                have hT1 : Srt key (X1 ++ Y1) := by rw [z1]; simpa using hsy1
                have hF1 : SF key (X1 ++ Y1) (X1 ++ Y1) := SF.refl _
                clear z1
                have z2 : Y2 = [] := List.eq_nil_of_length_eq_zero (by omega)
                have hT2 : Srt key (X2 ++ Y2) := by rw [z2]; simpa using hsx2
                have hF2 : SF key (X2 ++ Y2) (X2 ++ Y2) := SF.refl _
                clear z2
                have o1' : OwC base wr (some ⟨g, 0, none⟩) n c (P ++ X1 ++ Y1 ++ (X2 ++ Y2 ++ S)) := by
                  have z3 : Y1 = [] := List.eq_nil_of_length_eq_zero (by omega)
                  rw [z3] at oi ⊢; simpa using oi
                have hg1' := hgi
                have o2' : OwC base wr (some ⟨g, 0, none⟩) n c (P ++ (X1 ++ Y1) ++ X2 ++ Y2 ++ S) := by simpa using o1'
                have hg2' := hg1'
                have o3' : OwC base wr (some ⟨g, 0, none⟩) n c (P ++ ((X1 ++ Y1) ++ (X2 ++ Y2)) ++ S) := by simpa using o2'
                have hg3' := hg2'
                go_wp2
                go_end0
                have hmp := HMP.out (X1 ++ Y1) (X2 ++ Y2) hT1 hF1 hT2 hF2
                exact ⟨rfl, (X1 ++ Y1) ++ (X2 ++ Y2), hmp.1, by rw [HXY.out]; exact hmp.2, o3', hg3'⟩
        · by_cases A2 : r < M
          · by_cases A3 : a < r
            · by_cases A4 : E < b
              · have B1 : m < E := by omega
                have B2 : ¬ M < E := by omega
                have z2 : X2 = [] := List.eq_nil_of_length_eq_zero (by omega)
                have hT2 : Srt key (X2 ++ Y2) := by rw [z2]; simpa using hsy2
                have hF2 : SF key (X2 ++ Y2) (X2 ++ Y2) := SF.refl _
                clear z2
                have o1' : OwC base wr (some ⟨g, 0, none⟩) n c (P ++ X1 ++ Y1 ++ (X2 ++ Y2 ++ S)) := by
                  have z3 : X2 = [] := List.eq_nil_of_length_eq_zero (by omega)
                  rw [z3] at oi ⊢; simpa using oi
                have hg1' := hgi
                have cL := fun (W : World) (o : OwC base W (some ⟨g, 0, none⟩) n c (P ++ X1 ++ Y1 ++ (X2 ++ Y2 ++ S))) (h : w.grownBy W (some g)) => hIH W P X1 Y1 (X2 ++ Y2 ++ S) a r M o ha (by omega) (by omega) (by omega) (by omega) (by omega) hsx1 hsy1 (hC.sub HML.out)
                go_wp2_with (first | (go_at_call 126; ((with_reducible refine (cL _ o1' hg1').mono ?_); rintro e w' ⟨rfl, T1, hT1, hF1, o2, hg2⟩; (have o2' : OwC base w' (some ⟨g, 0, none⟩) n c (P ++ T1 ++ X2 ++ Y2 ++ S) := by simpa using o2); (have hg2' := hg1'.trans hg2); (have o3' : OwC base w' (some ⟨g, 0, none⟩) n c (P ++ (T1 ++ (X2 ++ Y2)) ++ S) := by simpa using o2'); (have hg3' := hg2'))))
                go_end0
                have hmp := HMP.out T1 (X2 ++ Y2) hT1 hF1 hT2 hF2
                exact ⟨rfl, T1 ++ (X2 ++ Y2), hmp.1, by rw [HXY.out]; exact hmp.2, o3', hg3'⟩
              · have B1 : m < E := by omega
                have B2 : ¬ M < E := by omega
                have z2 : X2 = [] := List.eq_nil_of_length_eq_zero (by omega)
                have hT2 : Srt key (X2 ++ Y2) := by rw [z2]; simpa using hsy2
                have hF2 : SF key (X2 ++ Y2) (X2 ++ Y2) := SF.refl _
                clear z2
                have o1' : OwC base wr (some ⟨g, 0, none⟩) n c (P ++ X1 ++ Y1 ++ (X2 ++ Y2 ++ S)) := by
                  have z3 : X2 = [] := List.eq_nil_of_length_eq_zero (by omega)
                  rw [z3] at oi ⊢; simpa using oi
                have hg1' := hgi
                have cL := fun (W : World) (o : OwC base W (some ⟨g, 0, none⟩) n c (P ++ X1 ++ Y1 ++ (X2 ++ Y2 ++ S))) (h : w.grownBy W (some g)) => hIH W P X1 Y1 (X2 ++ Y2 ++ S) a r M o ha (by omega) (by omega) (by omega) (by omega) (by omega) hsx1 hsy1 (hC.sub HML.out)
                go_wp2_with (first | (go_at_call 126; ((with_reducible refine (cL _ o1' hg1').mono ?_); rintro e w' ⟨rfl, T1, hT1, hF1, o2, hg2⟩; (have o2' : OwC base w' (some ⟨g, 0, none⟩) n c (P ++ T1 ++ X2 ++ Y2 ++ S) := by simpa using o2); (have hg2' := hg1'.trans hg2); (have o3' : OwC base w' (some ⟨g, 0, none⟩) n c (P ++ (T1 ++ (X2 ++ Y2)) ++ S) := by simpa using o2'); (have hg3' := hg2'))))
                go_end0
                have hmp := HMP.out T1 (X2 ++ Y2) hT1 hF1 hT2 hF2
                exact ⟨rfl, T1 ++ (X2 ++ Y2), hmp.1, by rw [HXY.out]; exact hmp.2, o3', hg3'⟩
            · by_cases A4 : E < b
              · have B1 : m < E := by omega
                have B2 : ¬ M < E := by omega
                have z1 : X1 = [] := List.eq_nil_of_length_eq_zero (by omega)
                have hT1 : Srt key (X1 ++ Y1) := by rw [z1]; simpa using hsy1
                have hF1 : SF key (X1 ++ Y1) (X1 ++ Y1) := SF.refl _
                clear z1
                have z2 : X2 = [] := List.eq_nil_of_length_eq_zero (by omega)
                have hT2 : Srt key (X2 ++ Y2) := by rw [z2]; simpa using hsy2
                have hF2 : SF key (X2 ++ Y2) (X2 ++ Y2) := SF.refl _
                clear z2
                have o1' : OwC base wr (some ⟨g, 0, none⟩) n c (P ++ X1 ++ Y1 ++ (X2 ++ Y2 ++ S)) := by
                  have z3 : X2 = [] := List.eq_nil_of_length_eq_zero (by omega)
                  rw [z3] at oi ⊢; simpa using oi
                have hg1' := hgi
                have o2' : OwC base wr (some ⟨g, 0, none⟩) n c (P ++ (X1 ++ Y1) ++ X2 ++ Y2 ++ S) := by simpa using o1'
                have hg2' := hg1'
                have o3' : OwC base wr (some ⟨g, 0, none⟩) n c (P ++ ((X1 ++ Y1) ++ (X2 ++ Y2)) ++ S) := by simpa using o2'
                have hg3' := hg2'
                go_wp2
                go_end0
                have hmp := HMP.out (X1 ++ Y1) (X2 ++ Y2) hT1 hF1 hT2 hF2
                exact ⟨rfl, (X1 ++ Y1) ++ (X2 ++ Y2), hmp.1, by rw [HXY.out]; exact hmp.2, o3', hg3'⟩
              · have B1 : m < E := by omega
                have B2 : ¬ M < E := by omega
                have z1 : X1 = [] := List.eq_nil_of_length_eq_zero (by omega)
                have hT1 : Srt key (X1 ++ Y1) := by rw [z1]; simpa using hsy1
                have hF1 : SF key (X1 ++ Y1) (X1 ++ Y1) := SF.refl _
                clear z1
                have z2 : X2 = [] := List.eq_nil_of_length_eq_zero (by omega)
                have hT2 : Srt key (X2 ++ Y2) := by rw [z2]; simpa using hsy2
                have hF2 : SF key (X2 ++ Y2) (X2 ++ Y2) := SF.refl _
                clear z2
                have o1' : OwC base wr (some ⟨g, 0, none⟩) n c (P ++ X1 ++ Y1 ++ (X2 ++ Y2 ++ S)) := by
                  have z3 : X2 = [] := List.eq_nil_of_length_eq_zero (by omega)
                  rw [z3] at oi ⊢; simpa using oi
                have hg1' := hgi
                have o2' : OwC base wr (some ⟨g, 0, none⟩) n c (P ++ (X1 ++ Y1) ++ X2 ++ Y2 ++ S) := by simpa using o1'
                have hg2' := hg1'
                have o3' : OwC base wr (some ⟨g, 0, none⟩) n c (P ++ ((X1 ++ Y1) ++ (X2 ++ Y2)) ++ S) := by simpa using o2'
                have hg3' := hg2'
                go_wp2
                go_end0
                have hmp := HMP.out (X1 ++ Y1) (X2 ++ Y2) hT1 hF1 hT2 hF2
                exact ⟨rfl, (X1 ++ Y1) ++ (X2 ++ Y2), hmp.1, by rw [HXY.out]; exact hmp.2, o3', hg3'⟩
          · by_cases A3 : a < r
            · by_cases A4 : E < b
              · have B1 : ¬ m < E := by omega
                have B2 : ¬ M < E := by omega
                have z1 : Y1 = [] := List.eq_nil_of_length_eq_zero (by omega)
                have hT1 : Srt key (X1 ++ Y1) := by rw [z1]; simpa using hsx1
                have hF1 : SF key (X1 ++ Y1) (X1 ++ Y1) := SF.refl _
                clear z1
                have z2 : X2 = [] := List.eq_nil_of_length_eq_zero (by omega)
                have hT2 : Srt key (X2 ++ Y2) := by rw [z2]; simpa using hsy2
                have hF2 : SF key (X2 ++ Y2) (X2 ++ Y2) := SF.refl _
                clear z2
                have o1' : OwC base wr (some ⟨g, 0, none⟩) n c (P ++ X1 ++ Y1 ++ (X2 ++ Y2 ++ S)) := by
                  have z3 : X2 = [] := List.eq_nil_of_length_eq_zero (by omega)
                  rw [z3] at oi ⊢; simpa using oi
                have hg1' := hgi
                have o2' : OwC base wr (some ⟨g, 0, none⟩) n c (P ++ (X1 ++ Y1) ++ X2 ++ Y2 ++ S) := by simpa using o1'
                have hg2' := hg1'
                have o3' : OwC base wr (some ⟨g, 0, none⟩) n c (P ++ ((X1 ++ Y1) ++ (X2 ++ Y2)) ++ S) := by simpa using o2'
                have hg3' := hg2'
                go_wp2
                go_end0
                have hmp := HMP.out (X1 ++ Y1) (X2 ++ Y2) hT1 hF1 hT2 hF2
                exact ⟨rfl, (X1 ++ Y1) ++ (X2 ++ Y2), hmp.1, by rw [HXY.out]; exact hmp.2, o3', hg3'⟩
              · have B1 : ¬ m < E := by omega
                have B2 : ¬ M < E := by omega
                have z1 : Y1 = [] := List.eq_nil_of_length_eq_zero (by omega)
                have hT1 : Srt key (X1 ++ Y1) := by rw [z1]; simpa using hsx1
                have hF1 : SF key (X1 ++ Y1) (X1 ++ Y1) := SF.refl _
                clear z1
                have z2 : X2 = [] := List.eq_nil_of_length_eq_zero (by omega)
                have hT2 : Srt key (X2 ++ Y2) := by rw [z2]; simpa using hsy2
                have hF2 : SF key (X2 ++ Y2) (X2 ++ Y2) := SF.refl _
                clear z2
                have o1' : OwC base wr (some ⟨g, 0, none⟩) n c (P ++ X1 ++ Y1 ++ (X2 ++ Y2 ++ S)) := by
                  have z3 : X2 = [] := List.eq_nil_of_length_eq_zero (by omega)
                  rw [z3] at oi ⊢; simpa using oi
                have hg1' := hgi
                have o2' : OwC base wr (some ⟨g, 0, none⟩) n c (P ++ (X1 ++ Y1) ++ X2 ++ Y2 ++ S) := by simpa using o1'
                have hg2' := hg1'
                have o3' : OwC base wr (some ⟨g, 0, none⟩) n c (P ++ ((X1 ++ Y1) ++ (X2 ++ Y2)) ++ S) := by simpa using o2'
                have hg3' := hg2'
                go_wp2
                go_end0
                have hmp := HMP.out (X1 ++ Y1) (X2 ++ Y2) hT1 hF1 hT2 hF2
                exact ⟨rfl, (X1 ++ Y1) ++ (X2 ++ Y2), hmp.1, by rw [HXY.out]; exact hmp.2, o3', hg3'⟩
            · by_cases A4 : E < b
              · have B1 : ¬ m < E := by omega
                have B2 : ¬ M < E := by omega
                have z1 : X1 = [] := List.eq_nil_of_length_eq_zero (by omega)
                have hT1 : Srt key (X1 ++ Y1) := by rw [z1]; simpa using hsy1
                have hF1 : SF key (X1 ++ Y1) (X1 ++ Y1) := SF.refl _
                clear z1
                have z2 : X2 = [] := List.eq_nil_of_length_eq_zero (by omega)
                have hT2 : Srt key (X2 ++ Y2) := by rw [z2]; simpa using hsy2
                have hF2 : SF key (X2 ++ Y2) (X2 ++ Y2) := SF.refl _
                clear z2
                have o1' : OwC base wr (some ⟨g, 0, none⟩) n c (P ++ X1 ++ Y1 ++ (X2 ++ Y2 ++ S)) := by
                  have z3 : X2 = [] := List.eq_nil_of_length_eq_zero (by omega)
                  rw [z3] at oi ⊢; simpa using oi
                have hg1' := hgi
                have o2' : OwC base wr (some ⟨g, 0, none⟩) n c (P ++ (X1 ++ Y1) ++ X2 ++ Y2 ++ S) := by simpa using o1'
                have hg2' := hg1'
                have o3' : OwC base wr (some ⟨g, 0, none⟩) n c (P ++ ((X1 ++ Y1) ++ (X2 ++ Y2)) ++ S) := by simpa using o2'
                have hg3' := hg2'
                go_wp2
                go_end0
                have hmp := HMP.out (X1 ++ Y1) (X2 ++ Y2) hT1 hF1 hT2 hF2
                exact ⟨rfl, (X1 ++ Y1) ++ (X2 ++ Y2), hmp.1, by rw [HXY.out]; exact hmp.2, o3', hg3'⟩
              · have B1 : ¬ m < E := by omega
                have B2 : ¬ M < E := by omega
                have z1 : X1 = [] := List.eq_nil_of_length_eq_zero (by omega)
                have hT1 : Srt key (X1 ++ Y1) := by rw [z1]; simpa using hsy1
                have hF1 : SF key (X1 ++ Y1) (X1 ++ Y1) := SF.refl _
                clear z1
                have z2 : X2 = [] := List.eq_nil_of_length_eq_zero (by omega)
                have hT2 : Srt key (X2 ++ Y2) := by rw [z2]; simpa using hsy2
                have hF2 : SF key (X2 ++ Y2) (X2 ++ Y2) := SF.refl _
                clear z2
                have o1' : OwC base wr (some ⟨g, 0, none⟩) n c (P ++ X1 ++ Y1 ++ (X2 ++ Y2 ++ S)) := by
                  have z3 : X2 = [] := List.eq_nil_of_length_eq_zero (by omega)
                  rw [z3] at oi ⊢; simpa using oi
                have hg1' := hgi
                have o2' : OwC base wr (some ⟨g, 0, none⟩) n c (P ++ (X1 ++ Y1) ++ X2 ++ Y2 ++ S) := by simpa using o1'
                have hg2' := hg1'
                have o3' : OwC base wr (some ⟨g, 0, none⟩) n c (P ++ ((X1 ++ Y1) ++ (X2 ++ Y2)) ++ S) := by simpa using o2'
                have hg3' := hg2'
                go_wp2
                go_end0
                have hmp := HMP.out (X1 ++ Y1) (X2 ++ Y2) hT1 hF1 hT2 hF2
                exact ⟨rfl, (X1 ++ Y1) ++ (X2 ++ Y2), hmp.1, by rw [HXY.out]; exact hmp.2, o3', hg3'⟩
  · obtain ⟨s0, hs0⟩ : ∃ s0, a = s0 := ⟨_, rfl⟩
    obtain ⟨r0, hr0⟩ : ∃ r0, m = r0 := ⟨_, rfl⟩
    have hs1 : s0 ≤ a := by omega
    have hs2 : a ≤ s0 := by omega
    have hr1 : r0 ≤ m := by omega
    have hr2 : m ≤ r0 := by omega
    have HS0 := Lib.hid hs0
    have HR0 := Lib.hid hr0
    clear hs0 hr0
    have hmI : ¬ (M : Int) < m := by omega
    go_enter Tryd.func126, Tryd.ntmps126
    go_wp2
    go_loopw [20, 21] (fun u v wr => ∃ s r : Nat, (s0 ≤ s ∧ s ≤ r ∧ r ≤ r0) ∧ u = .int .i64 s ∧ v = .int .i64 r ∧ Hid (s0 < s → key (X[s - 1 - a]?.getD z3) ≤ key (Y[M - s]?.getD z3)) ∧ Hid (r < r0 → key (Y[M - 1 - r]?.getD z3) < key (X[r - a]?.getD z3)) ∧ OwC base wr (some ⟨g, 0, none⟩) n c (P ++ X ++ Y ++ S) ∧ w.grownBy wr (some g)) (fun u v _ => (intOf v).toNat - (intOf u).toNat)
    case atStart => exact ⟨s0, r0, by omega, by rw [HS0.out], by rw [HR0.out], fun h => by omega, fun h => by omega, ho, World.grownBy.refl _ _⟩
    case round =>
      obtain ⟨s, r, ⟨hs0, hsr, hrr⟩, rfl, rfl, HIA, HIB, oi, hgi⟩ := hrel
      by_cases hlt : s < r
      · obtain ⟨cc0, hcc⟩ : ∃ cc0, (s + r) / 2 = cc0 := ⟨_, rfl⟩
        have hcI : ((s : Int) + r) / 2 = (cc0 : Int) := by omega
        have hcb : s ≤ cc0 ∧ cc0 < r := by omega
        clear hcc
        have hpc : ((M + m - 1 : Nat) : Int) - cc0 = ((M + m - 1 - cc0 : Nat) : Int) := by omega
        have hx1 : cc0 - a < X.length := by omega
        have hy1 : M - 1 - cc0 < Y.length := by omega
        have c0 := oi.cell_ cc0 (by omega)
        have c1 := oi.cell_ (M + m - 1 - cc0) (by omega)
        rw [catC_x ha (by omega) (by omega)] at c0
        rw [catC_y (by omega : P.length + X.length = m) (by omega) (by omega), show M + m - 1 - cc0 - m = M - 1 - cc0 by omega] at c1
        have cc := fun w' => hC w' (Y[M - 1 - cc0]?.getD z3) (X[cc0 - a]?.getD z3) (hYm _ hy1) (hXm _ hx1)
        have HXe := Lib.hid (show X[cc0 + 1 - 1 - a]?.getD z3 = X[cc0 - a]?.getD z3 by rw [Nat.add_sub_cancel])
        have HYe := Lib.hid (show Y[M - (cc0 + 1)]?.getD z3 = Y[M - 1 - cc0]?.getD z3 by rw [show M - (cc0 + 1) = M - 1 - cc0 by omega])
        obtain ⟨yv, hyv⟩ : ∃ yv, Y[M - 1 - cc0]?.getD z3 = yv := ⟨_, rfl⟩
        obtain ⟨xv, hxv⟩ : ∃ xv, X[cc0 - a]?.getD z3 = xv := ⟨_, rfl⟩
        unfold Hid at HXe HYe
        rw [hxv] at c0 HXe
        rw [hyv] at c1 HYe
        simp only [hxv, hyv] at cc
        have HXv := Lib.hid hxv
        have HYv := Lib.hid hyv
        replace HXe := Lib.hid HXe
        replace HYe := Lib.hid HYe
        clear hxv hyv
        obtain ⟨c0, c0b, c0c⟩ := c0
        obtain ⟨c1, c1b, c1c⟩ := c1
        have hcN : (cc0 : Int) < n := by omega
        have hpN : ((M + m - 1 - cc0 : Nat) : Int) < n := by omega
        by_cases hyx : key yv < key xv
        · have hok := hyx
          go_wp2
          have hwp : IntKind.i64.wrap (((M + m - 1 - cc0 : Nat) : Int)) = ((M + m - 1 - cc0 : Nat) : Int) := IntWalk.i64_in _ (by omega)
          have hwp2 : IntKind.i64.wrap (((M + m - 1 : Nat) : Int) - cc0) = ((M + m - 1 - cc0 : Nat) : Int) := by rw [IntWalk.i64_in _ (by omega)]; omega
          go_still_tail 11, (by kernel_rfl)
          change wpList _ _ _ _ _ (World.drew _)
          go_wp2_with ((go_at_call 101; ((with_reducible refine (cc _).mono ?_); rintro e w' ⟨rv, hr, rfl, xq, rfl⟩; (have hv := hr.1 hok))))
          go_wp2
          go_roundw
          case rel =>
            have okk := oi.after xq
            have hgk := grown_after hgi xq
            have hB2 : cc0 < r0 → key (Y[M - 1 - cc0]?.getD z3) < key (X[cc0 - a]?.getD z3) := fun _ => by rw [HXv.out, HYv.out]; exact hyx
            first | exact ⟨s, cc0, by omega, rfl, rfl, HIA, hB2, okk, hgk⟩ | ((repeat apply Exists.intro); exact ⟨⟨s, cc0, by omega, rfl, rfl, HIA, hB2, okk, hgk⟩, rfl⟩)
          case measure => simp [intOf]; omega
        · have hle : key xv ≤ key yv := by omega
          go_wp2
          have hwp : IntKind.i64.wrap (((M + m - 1 - cc0 : Nat) : Int)) = ((M + m - 1 - cc0 : Nat) : Int) := IntWalk.i64_in _ (by omega)
          have hwp2 : IntKind.i64.wrap (((M + m - 1 : Nat) : Int) - cc0) = ((M + m - 1 - cc0 : Nat) : Int) := by rw [IntWalk.i64_in _ (by omega)]; omega
          go_still_tail 11, (by kernel_rfl)
          change wpList _ _ _ _ _ (World.drew _)
          go_wp2_with ((go_at_call 101; ((with_reducible refine (cc _).mono ?_); rintro e w' ⟨rv, hr, rfl, xq, rfl⟩; (have hv := hr.2 hle); (have hv4 : decide (rv < 0) = false := by simp; omega))))
          go_wp2
          go_roundw
          case rel =>
            have okk := oi.after xq
            have hgk := grown_after hgi xq
            have hA2 : s0 < cc0 + 1 → key (X[cc0 + 1 - 1 - a]?.getD z3) ≤ key (Y[M - (cc0 + 1)]?.getD z3) := fun _ => by rw [HXe.out, HYe.out]; exact hle
            first | exact ⟨cc0 + 1, r, by omega, by go_num, rfl, hA2, HIB, okk, hgk⟩ | ((repeat apply Exists.intro); exact ⟨⟨cc0 + 1, r, by omega, by go_num, rfl, hA2, HIB, okk, hgk⟩, rfl⟩)
          case measure => simp [intOf]; omega
      · obtain rfl : r = s := by omega
        have has : a ≤ r := by omega
        have hsm : r ≤ m := by omega
        have hsM : r ≤ M := by omega
        have hMs : M - r ≤ Y.length := by omega
        obtain ⟨E, hE⟩ : ∃ E, M + m - r = E := ⟨_, rfl⟩
        have hEI : ((M : Int) + m) - r = (E : Int) := by omega
        have hE1 : E + r ≤ M + m := by omega
        have hE2 : M + m ≤ E + r := by omega
        clear hE
        have lX1 : (X.take (r - a)).length = r - a := by rw [List.length_take]; omega
        have lX2 : (X.drop (r - a)).length = m - r := by rw [List.length_drop]; omega
        have lY1 : (Y.take (M - r)).length = M - r := by rw [List.length_take]; omega
        have lY2 : (Y.drop (M - r)).length = b - E := by rw [List.length_drop]; omega
        have hA : ∀ x ∈ X.take (r - a), ∀ y ∈ Y.drop (M - r), key x ≤ key y := fun x hx y hy => by
          have n1 : 0 < r - a := by rcases Nat.eq_zero_or_pos (r - a) with h | h; · rw [h] at hx; simp at hx
                                    · exact h
          have n2 : M - r < Y.length := by
            rcases Nat.lt_or_ge (M - r) Y.length with h | h
            · exact h
            · rw [List.drop_of_length_le h] at hy; simp at hy
          have h1 := HIA.out (by omega)
          have h2 := hX.uptoC (q := r - 1 - a) (by omega) x (by rw [show r - 1 - a + 1 = r - a by omega]; exact hx)
          have h3 := hY.fromC n2 y hy
          omega
        have hB : ∀ y ∈ Y.take (M - r), ∀ x ∈ X.drop (r - a), key y < key x := fun y hy x hx => by
          have n1 : 0 < M - r := by rcases Nat.eq_zero_or_pos (M - r) with h | h; · rw [h] at hy; simp at hy
                                    · exact h
          have n2 : r - a < X.length := by
            rcases Nat.lt_or_ge (r - a) X.length with h | h
            · exact h
            · rw [List.drop_of_length_le h] at hx; simp at hx
          have h1 := HIB.out (by omega)
          have h2 := hY.uptoC (q := M - 1 - r) (by omega) y (by rw [show M - 1 - r + 1 = M - r by omega]; exact hy)
          have h3 := hX.fromC n2 x hx
          omega
        have eX : X.take (r - a) ++ X.drop (r - a) = X := List.take_append_drop _ _
        have eY : Y.take (M - r) ++ Y.drop (M - r) = Y := List.take_append_drop _ _
        have hX' := hX
        have hY' := hY
        rw [← eX] at hX'
        rw [← eY] at hY'
        have HMP := Lib.hid (fun T1 T2 h1 h1' h2 h2' => mergeC_parts (key := key) (T1 := T1) (T2 := T2) hX' hY' hA hB h1 h1' h2 h2')
        have hsx1 := hX'.parts.1
        have hsx2 := hX'.parts.2.1
        have hsy1 := hY'.parts.1
        have hsy2 := hY'.parts.2.1
        clear hA hB hX' hY' HIA HIB
        have eL : P ++ X ++ Y ++ S = P ++ (X.take (r - a) ++ X.drop (r - a)) ++ (Y.take (M - r) ++ Y.drop (M - r)) ++ S := by rw [eX, eY]
        have eXY : X ++ Y = X.take (r - a) ++ X.drop (r - a) ++ (Y.take (M - r) ++ Y.drop (M - r)) := by rw [eX, eY]
        rw [eL] at oi hC
        have HXY := Lib.hid eXY
        clear ho hXm hYm eL eXY eX eY hX hY
        generalize X.take (r - a) = X1 at *
        generalize X.drop (r - a) = X2 at *
        generalize Y.take (M - r) = Y1 at *
        generalize Y.drop (M - r) = Y2 at *
        have HML := Lib.hid (show ∀ z ∈ P ++ X1 ++ Y1 ++ (X2 ++ Y2 ++ S), z ∈ P ++ (X1 ++ X2) ++ (Y1 ++ Y2) ++ S from fun z hz => by simp at hz ⊢; rcases hz with h | h | h | h | h | h <;> simp [h])
        have HMR := Lib.hid (show ∀ T1, SF key T1 (X1 ++ Y1) → ∀ z ∈ P ++ T1 ++ X2 ++ Y2 ++ S, z ∈ P ++ (X1 ++ X2) ++ (Y1 ++ Y2) ++ S from fun T1 hT z hz => by
          simp at hz ⊢
          rcases hz with h | h | h | h | h
          · simp [h]
          · have := List.mem_append.1 (hT.mem h); rcases this with h | h <;> simp [h]
          · simp [h]
          · simp [h]
          · simp [h])
        by_cases A1 : r < m
        · by_cases A2 : r < M
          · by_cases A3 : a < r
            · by_cases A4 : E < b
              · have B1 : m < E := by omega
                have B2 : M < E := by omega
                have cR := rotateC_any wr base g n c _ (P ++ X1) X2 Y1 (Y2 ++ S) r m E (.func (.func 101) #[] #[]) oi hn (by simp) (by rw [List.length_append]; omega) (by omega) (by omega) (by omega) (by omega)
                have cL := fun (W : World) (o : OwC base W (some ⟨g, 0, none⟩) n c (P ++ X1 ++ Y1 ++ (X2 ++ Y2 ++ S))) (h : w.grownBy W (some g)) => hIH W P X1 Y1 (X2 ++ Y2 ++ S) a r M o ha (by omega) (by omega) (by omega) (by omega) (by omega) hsx1 hsy1 (hC.sub HML.out)
                have cQ := fun (W : World) (T1 : List T3) (hT : SF key T1 (X1 ++ Y1)) (o : OwC base W (some ⟨g, 0, none⟩) n c (P ++ T1 ++ X2 ++ Y2 ++ S)) (h : w.grownBy W (some g)) => hIH W (P ++ T1) X2 Y2 S M E b o (by have h5 := hT.len; rw [List.length_append] at h5; rw [List.length_append]; omega) (by omega) (by omega) (by omega) (by omega) (by omega) hsx2 hsy2 (hC.sub (HMR.out T1 hT))
                go_wp2_with (first | (go_at_call 133; ((with_reducible refine (cR).mono ?_); rintro e w' ⟨rfl, o1, hg1⟩; (have o1' : OwC base w' (some ⟨g, 0, none⟩) n c (P ++ X1 ++ Y1 ++ (X2 ++ Y2 ++ S)) := by simpa using o1); (have hg1' := hgi.trans hg1))) | (go_at_call 126; ((with_reducible refine (cL _ o1' hg1').mono ?_); rintro e w' ⟨rfl, T1, hT1, hF1, o2, hg2⟩; (have o2' : OwC base w' (some ⟨g, 0, none⟩) n c (P ++ T1 ++ X2 ++ Y2 ++ S) := by simpa using o2); (have hg2' := hg1'.trans hg2))) | (go_at_call 126; ((with_reducible refine (cQ _ _ hF1 o2' hg2').mono ?_); rintro e w' ⟨rfl, T2, hT2, hF2, o3, hg3⟩; (have o3' : OwC base w' (some ⟨g, 0, none⟩) n c (P ++ (T1 ++ T2) ++ S) := by simpa using o3); (have hg3' := hg2'.trans hg3))))
                go_end0
                have hmp := HMP.out T1 T2 hT1 hF1 hT2 hF2
                exact ⟨rfl, T1 ++ T2, hmp.1, by rw [HXY.out]; exact hmp.2, o3', hg3'⟩
              · have B1 : m < E := by omega
                have B2 : M < E := by omega
                have z2 : Y2 = [] := List.eq_nil_of_length_eq_zero (by omega)
                have hT2 : Srt key (X2 ++ Y2) := by rw [z2]; simpa using hsx2
                have hF2 : SF key (X2 ++ Y2) (X2 ++ Y2) := SF.refl _
                clear z2
                have cR := rotateC_any wr base g n c _ (P ++ X1) X2 Y1 (Y2 ++ S) r m E (.func (.func 101) #[] #[]) oi hn (by simp) (by rw [List.length_append]; omega) (by omega) (by omega) (by omega) (by omega)
                have cL := fun (W : World) (o : OwC base W (some ⟨g, 0, none⟩) n c (P ++ X1 ++ Y1 ++ (X2 ++ Y2 ++ S))) (h : w.grownBy W (some g)) => hIH W P X1 Y1 (X2 ++ Y2 ++ S) a r M o ha (by omega) (by omega) (by omega) (by omega) (by omega) hsx1 hsy1 (hC.sub HML.out)
                go_wp2_with (first | (go_at_call 133; ((with_reducible refine (cR).mono ?_); rintro e w' ⟨rfl, o1, hg1⟩; (have o1' : OwC base w' (some ⟨g, 0, none⟩) n c (P ++ X1 ++ Y1 ++ (X2 ++ Y2 ++ S)) := by simpa using o1); (have hg1' := hgi.trans hg1))) | (go_at_call 126; ((with_reducible refine (cL _ o1' hg1').mono ?_); rintro e w' ⟨rfl, T1, hT1, hF1, o2, hg2⟩; (have o2' : OwC base w' (some ⟨g, 0, none⟩) n c (P ++ T1 ++ X2 ++ Y2 ++ S) := by simpa using o2); (have hg2' := hg1'.trans hg2); (have o3' : OwC base w' (some ⟨g, 0, none⟩) n c (P ++ (T1 ++ (X2 ++ Y2)) ++ S) := by simpa using o2'); (have hg3' := hg2'))))
                go_end0
                have hmp := HMP.out T1 (X2 ++ Y2) hT1 hF1 hT2 hF2
                exact ⟨rfl, T1 ++ (X2 ++ Y2), hmp.1, by rw [HXY.out]; exact hmp.2, o3', hg3'⟩
            · by_cases A4 : E < b
              · have B1 : m < E := by omega
                have B2 : M < E := by omega
                have z1 : X1 = [] := List.eq_nil_of_length_eq_zero (by omega)
                have hT1 : Srt key (X1 ++ Y1) := by rw [z1]; simpa using hsy1
                have hF1 : SF key (X1 ++ Y1) (X1 ++ Y1) := SF.refl _
                clear z1
                have cR := rotateC_any wr base g n c _ (P ++ X1) X2 Y1 (Y2 ++ S) r m E (.func (.func 101) #[] #[]) oi hn (by simp) (by rw [List.length_append]; omega) (by omega) (by omega) (by omega) (by omega)
                have cQ := fun (W : World) (T1 : List T3) (hT : SF key T1 (X1 ++ Y1)) (o : OwC base W (some ⟨g, 0, none⟩) n c (P ++ T1 ++ X2 ++ Y2 ++ S)) (h : w.grownBy W (some g)) => hIH W (P ++ T1) X2 Y2 S M E b o (by have h5 := hT.len; rw [List.length_append] at h5; rw [List.length_append]; omega) (by omega) (by omega) (by omega) (by omega) (by omega) hsx2 hsy2 (hC.sub (HMR.out T1 hT))
                go_wp2_with (first | (go_at_call 133; ((with_reducible refine (cR).mono ?_); rintro e w' ⟨rfl, o1, hg1⟩; (have o1' : OwC base w' (some ⟨g, 0, none⟩) n c (P ++ X1 ++ Y1 ++ (X2 ++ Y2 ++ S)) := by simpa using o1); (have hg1' := hgi.trans hg1); (have o2' : OwC base w' (some ⟨g, 0, none⟩) n c (P ++ (X1 ++ Y1) ++ X2 ++ Y2 ++ S) := by simpa using o1'); (have hg2' := hg1'))) | (go_at_call 126; ((with_reducible refine (cQ _ _ hF1 o2' hg2').mono ?_); rintro e w' ⟨rfl, T2, hT2, hF2, o3, hg3⟩; (have o3' : OwC base w' (some ⟨g, 0, none⟩) n c (P ++ ((X1 ++ Y1) ++ T2) ++ S) := by simpa using o3); (have hg3' := hg2'.trans hg3))))
                go_end0
                have hmp := HMP.out (X1 ++ Y1) T2 hT1 hF1 hT2 hF2
                exact ⟨rfl, (X1 ++ Y1) ++ T2, hmp.1, by rw [HXY.out]; exact hmp.2, o3', hg3'⟩
              · have B1 : m < E := by omega
                have B2 : M < E := by omega
                have z1 : X1 = [] := List.eq_nil_of_length_eq_zero (by omega)
                have hT1 : Srt key (X1 ++ Y1) := by rw [z1]; simpa using hsy1
                have hF1 : SF key (X1 ++ Y1) (X1 ++ Y1) := SF.refl _
                clear z1
                have z2 : Y2 = [] := List.eq_nil_of_length_eq_zero (by omega)
                have hT2 : Srt key (X2 ++ Y2) := by rw [z2]; simpa using hsx2
                have hF2 : SF key (X2 ++ Y2) (X2 ++ Y2) := SF.refl _
                clear z2
                have cR := rotateC_any wr base g n c _ (P ++ X1) X2 Y1 (Y2 ++ S) r m E (.func (.func 101) #[] #[]) oi hn (by simp) (by rw [List.length_append]; omega) (by omega) (by omega) (by omega) (by omega)
                go_wp2_with (first | (go_at_call 133; ((with_reducible refine (cR).mono ?_); rintro e w' ⟨rfl, o1, hg1⟩; (have o1' : OwC base w' (some ⟨g, 0, none⟩) n c (P ++ X1 ++ Y1 ++ (X2 ++ Y2 ++ S)) := by simpa using o1); (have hg1' := hgi.trans hg1); (have o2' : OwC base w' (some ⟨g, 0, none⟩) n c (P ++ (X1 ++ Y1) ++ X2 ++ Y2 ++ S) := by simpa using o1'); (have hg2' := hg1'); (have o3' : OwC base w' (some ⟨g, 0, none⟩) n c (P ++ ((X1 ++ Y1) ++ (X2 ++ Y2)) ++ S) := by simpa using o2'); (have hg3' := hg2'))))
                go_end0
                have hmp := HMP.out (X1 ++ Y1) (X2 ++ Y2) hT1 hF1 hT2 hF2
                exact ⟨rfl, (X1 ++ Y1) ++ (X2 ++ Y2), hmp.1, by rw [HXY.out]; exact hmp.2, o3', hg3'⟩
          · by_cases A3 : a < r
            · by_cases A4 : E < b
              · have B1 : ¬ m < E := by omega
                have B2 : M < E := by omega
                have z1 : Y1 = [] := List.eq_nil_of_length_eq_zero (by omega)
                have hT1 : Srt key (X1 ++ Y1) := by rw [z1]; simpa using hsx1
                have hF1 : SF key (X1 ++ Y1) (X1 ++ Y1) := SF.refl _
                clear z1
                have o1' : OwC base wr (some ⟨g, 0, none⟩) n c (P ++ X1 ++ Y1 ++ (X2 ++ Y2 ++ S)) := by
                  have z3 : Y1 = [] := List.eq_nil_of_length_eq_zero (by omega)
                  rw [z3] at oi ⊢; simpa using oi
                have hg1' := hgi
                have cQ := fun (W : World) (T1 : List T3) (hT : SF key T1 (X1 ++ Y1)) (o : OwC base W (some ⟨g, 0, none⟩) n c (P ++ T1 ++ X2 ++ Y2 ++ S)) (h : w.grownBy W (some g)) => hIH W (P ++ T1) X2 Y2 S M E b o (by have h5 := hT.len; rw [List.length_append] at h5; rw [List.length_append]; omega) (by omega) (by omega) (by omega) (by omega) (by omega) hsx2 hsy2 (hC.sub (HMR.out T1 hT))
                have o2' : OwC base wr (some ⟨g, 0, none⟩) n c (P ++ (X1 ++ Y1) ++ X2 ++ Y2 ++ S) := by simpa using o1'
                have hg2' := hg1'
                go_wp2_with (first | (go_at_call 126; ((with_reducible refine (cQ _ _ hF1 o2' hg2').mono ?_); rintro e w' ⟨rfl, T2, hT2, hF2, o3, hg3⟩; (have o3' : OwC base w' (some ⟨g, 0, none⟩) n c (P ++ ((X1 ++ Y1) ++ T2) ++ S) := by simpa using o3); (have hg3' := hg2'.trans hg3))))
                go_end0
                have hmp := HMP.out (X1 ++ Y1) T2 hT1 hF1 hT2 hF2
                exact ⟨rfl, (X1 ++ Y1) ++ T2, hmp.1, by rw [HXY.out]; exact hmp.2, o3', hg3'⟩
              · have B1 : ¬ m < E := by omega
                have B2 : M < E := by omega
                have z1 : Y1 = [] := List.eq_nil_of_length_eq_zero (by omega)
                have hT1 : Srt key (X1 ++ Y1) := by rw [z1]; simpa using hsx1
                have hF1 : SF key (X1 ++ Y1) (X1 ++ Y1) := SF.refl _
                clear z1
                have z2 : Y2 = [] := List.eq_nil_of_length_eq_zero (by omega)
                have hT2 : Srt key (X2 ++ Y2) := by rw [z2]; simpa using hsx2
                have hF2 : SF key (X2 ++ Y2) (X2 ++ Y2) := SF.refl _
                clear z2
                have o1' : OwC base wr (some ⟨g, 0, none⟩) n c (P ++ X1 ++ Y1 ++ (X2 ++ Y2 ++ S)) := by
                  have z3 : Y1 = [] := List.eq_nil_of_length_eq_zero (by omega)
                  rw [z3] at oi ⊢; simpa using oi
                have hg1' := hgi
                have o2' : OwC base wr (some ⟨g, 0, none⟩) n c (P ++ (X1 ++ Y1) ++ X2 ++ Y2 ++ S) := by simpa using o1'
                have hg2' := hg1'
                have o3' : OwC base wr (some ⟨g, 0, none⟩) n c (P ++ ((X1 ++ Y1) ++ (X2 ++ Y2)) ++ S) := by simpa using o2'
                have hg3' := hg2'
                go_wp2
                go_end0
                have hmp := HMP.out (X1 ++ Y1) (X2 ++ Y2) hT1 hF1 hT2 hF2
                exact ⟨rfl, (X1 ++ Y1) ++ (X2 ++ Y2), hmp.1, by rw [HXY.out]; exact hmp.2, o3', hg3'⟩
            · by_cases A4 : E < b
              · have B1 : ¬ m < E := by omega
                have B2 : M < E := by omega
                have z1 : X1 = [] := List.eq_nil_of_length_eq_zero (by omega)
                have hT1 : Srt key (X1 ++ Y1) := by rw [z1]; simpa using hsy1
                have hF1 : SF key (X1 ++ Y1) (X1 ++ Y1) := SF.refl _
                clear z1
                have o1' : OwC base wr (some ⟨g, 0, none⟩) n c (P ++ X1 ++ Y1 ++ (X2 ++ Y2 ++ S)) := by
                  have z3 : Y1 = [] := List.eq_nil_of_length_eq_zero (by omega)
                  rw [z3] at oi ⊢; simpa using oi
                have hg1' := hgi
                have cQ := fun (W : World) (T1 : List T3) (hT : SF key T1 (X1 ++ Y1)) (o : OwC base W (some ⟨g, 0, none⟩) n c (P ++ T1 ++ X2 ++ Y2 ++ S)) (h : w.grownBy W (some g)) => hIH W (P ++ T1) X2 Y2 S M E b o (by have h5 := hT.len; rw [List.length_append] at h5; rw [List.length_append]; omega) (by omega) (by omega) (by omega) (by omega) (by omega) hsx2 hsy2 (hC.sub (HMR.out T1 hT))
                have o2' : OwC base wr (some ⟨g, 0, none⟩) n c (P ++ (X1 ++ Y1) ++ X2 ++ Y2 ++ S) := by simpa using o1'
                have hg2' := hg1'
                go_wp2_with (first | (go_at_call 126; ((with_reducible refine (cQ _ _ hF1 o2' hg2').mono ?_); rintro e w' ⟨rfl, T2, hT2, hF2, o3, hg3⟩; (have o3' : OwC base w' (some ⟨g, 0, none⟩) n c (P ++ ((X1 ++ Y1) ++ T2) ++ S) := by simpa using o3); (have hg3' := hg2'.trans hg3))))
                go_end0
                have hmp := HMP.out (X1 ++ Y1) T2 hT1 hF1 hT2 hF2
                exact ⟨rfl, (X1 ++ Y1) ++ T2, hmp.1, by rw [HXY.out]; exact hmp.2, o3', hg3'⟩
              · have B1 : ¬ m < E := by omega
                have B2 : M < E := by omega
                have z1 : X1 = [] := List.eq_nil_of_length_eq_zero (by omega)
                have hT1 : Srt key (X1 ++ Y1) := by rw [z1]; simpa using hsy1
                have hF1 : SF key (X1 ++ Y1) (X1 ++ Y1) := SF.refl _
                clear z1
                have z2 : Y2 = [] := List.eq_nil_of_length_eq_zero (by omega)
                have hT2 : Srt key (X2 ++ Y2) := by rw [z2]; simpa using hsx2
                have hF2 : SF key (X2 ++ Y2) (X2 ++ Y2) := SF.refl _
                clear z2
                have o1' : OwC base wr (some ⟨g, 0, none⟩) n c (P ++ X1 ++ Y1 ++ (X2 ++ Y2 ++ S)) := by
                  have z3 : Y1 = [] := List.eq_nil_of_length_eq_zero (by omega)
                  rw [z3] at oi ⊢; simpa using oi
                have hg1' := hgi
                have o2' : OwC base wr (some ⟨g, 0, none⟩) n c (P ++ (X1 ++ Y1) ++ X2 ++ Y2 ++ S) := by simpa using o1'
                have hg2' := hg1'
                have o3' : OwC base wr (some ⟨g, 0, none⟩) n c (P ++ ((X1 ++ Y1) ++ (X2 ++ Y2)) ++ S) := by simpa using o2'
                have hg3' := hg2'
                go_wp2
                go_end0
                have hmp := HMP.out (X1 ++ Y1) (X2 ++ Y2) hT1 hF1 hT2 hF2
                exact ⟨rfl, (X1 ++ Y1) ++ (X2 ++ Y2), hmp.1, by rw [HXY.out]; exact hmp.2, o3', hg3'⟩
        · by_cases A2 : r < M
          · by_cases A3 : a < r
            · by_cases A4 : E < b
              · have B1 : m < E := by omega
                have B2 : ¬ M < E := by omega
                have z2 : X2 = [] := List.eq_nil_of_length_eq_zero (by omega)
                have hT2 : Srt key (X2 ++ Y2) := by rw [z2]; simpa using hsy2
                have hF2 : SF key (X2 ++ Y2) (X2 ++ Y2) := SF.refl _
                clear z2
                have o1' : OwC base wr (some ⟨g, 0, none⟩) n c (P ++ X1 ++ Y1 ++ (X2 ++ Y2 ++ S)) := by
                  have z3 : X2 = [] := List.eq_nil_of_length_eq_zero (by omega)
                  rw [z3] at oi ⊢; simpa using oi
                have hg1' := hgi
                have cL := fun (W : World) (o : OwC base W (some ⟨g, 0, none⟩) n c (P ++ X1 ++ Y1 ++ (X2 ++ Y2 ++ S))) (h : w.grownBy W (some g)) => hIH W P X1 Y1 (X2 ++ Y2 ++ S) a r M o ha (by omega) (by omega) (by omega) (by omega) (by omega) hsx1 hsy1 (hC.sub HML.out)
                go_wp2_with (first | (go_at_call 126; ((with_reducible refine (cL _ o1' hg1').mono ?_); rintro e w' ⟨rfl, T1, hT1, hF1, o2, hg2⟩; (have o2' : OwC base w' (some ⟨g, 0, none⟩) n c (P ++ T1 ++ X2 ++ Y2 ++ S) := by simpa using o2); (have hg2' := hg1'.trans hg2); (have o3' : OwC base w' (some ⟨g, 0, none⟩) n c (P ++ (T1 ++ (X2 ++ Y2)) ++ S) := by simpa using o2'); (have hg3' := hg2'))))
                go_end0
                have hmp := HMP.out T1 (X2 ++ Y2) hT1 hF1 hT2 hF2
                exact ⟨rfl, T1 ++ (X2 ++ Y2), hmp.1, by rw [HXY.out]; exact hmp.2, o3', hg3'⟩
              · have B1 : m < E := by omega
                have B2 : ¬ M < E := by omega
                have z2 : X2 = [] := List.eq_nil_of_length_eq_zero (by omega)
                have hT2 : Srt key (X2 ++ Y2) := by rw [z2]; simpa using hsy2
                have hF2 : SF key (X2 ++ Y2) (X2 ++ Y2) := SF.refl _
                clear z2
                have o1' : OwC base wr (some ⟨g, 0, none⟩) n c (P ++ X1 ++ Y1 ++ (X2 ++ Y2 ++ S)) := by
                  have z3 : X2 = [] := List.eq_nil_of_length_eq_zero (by omega)
                  rw [z3] at oi ⊢; simpa using oi
                have hg1' := hgi
                have cL := fun (W : World) (o : OwC base W (some ⟨g, 0, none⟩) n c (P ++ X1 ++ Y1 ++ (X2 ++ Y2 ++ S))) (h : w.grownBy W (some g)) => hIH W P X1 Y1 (X2 ++ Y2 ++ S) a r M o ha (by omega) (by omega) (by omega) (by omega) (by omega) hsx1 hsy1 (hC.sub HML.out)
                go_wp2_with (first | (go_at_call 126; ((with_reducible refine (cL _ o1' hg1').mono ?_); rintro e w' ⟨rfl, T1, hT1, hF1, o2, hg2⟩; (have o2' : OwC base w' (some ⟨g, 0, none⟩) n c (P ++ T1 ++ X2 ++ Y2 ++ S) := by simpa using o2); (have hg2' := hg1'.trans hg2); (have o3' : OwC base w' (some ⟨g, 0, none⟩) n c (P ++ (T1 ++ (X2 ++ Y2)) ++ S) := by simpa using o2'); (have hg3' := hg2'))))
                go_end0
                have hmp := HMP.out T1 (X2 ++ Y2) hT1 hF1 hT2 hF2
                exact ⟨rfl, T1 ++ (X2 ++ Y2), hmp.1, by rw [HXY.out]; exact hmp.2, o3', hg3'⟩
            · by_cases A4 : E < b
              · have B1 : m < E := by omega
                have B2 : ¬ M < E := by omega
                have z1 : X1 = [] := List.eq_nil_of_length_eq_zero (by omega)
                have hT1 : Srt key (X1 ++ Y1) := by rw [z1]; simpa using hsy1
                have hF1 : SF key (X1 ++ Y1) (X1 ++ Y1) := SF.refl _
                clear z1
                have z2 : X2 = [] := List.eq_nil_of_length_eq_zero (by omega)
                have hT2 : Srt key (X2 ++ Y2) := by rw [z2]; simpa using hsy2
                have hF2 : SF key (X2 ++ Y2) (X2 ++ Y2) := SF.refl _
                clear z2
                have o1' : OwC base wr (some ⟨g, 0, none⟩) n c (P ++ X1 ++ Y1 ++ (X2 ++ Y2 ++ S)) := by
                  have z3 : X2 = [] := List.eq_nil_of_length_eq_zero (by omega)
                  rw [z3] at oi ⊢; simpa using oi
                have hg1' := hgi
                have o2' : OwC base wr (some ⟨g, 0, none⟩) n c (P ++ (X1 ++ Y1) ++ X2 ++ Y2 ++ S) := by simpa using o1'
                have hg2' := hg1'
                have o3' : OwC base wr (some ⟨g, 0, none⟩) n c (P ++ ((X1 ++ Y1) ++ (X2 ++ Y2)) ++ S) := by simpa using o2'
                have hg3' := hg2'
                go_wp2
                go_end0
                have hmp := HMP.out (X1 ++ Y1) (X2 ++ Y2) hT1 hF1 hT2 hF2
                exact ⟨rfl, (X1 ++ Y1) ++ (X2 ++ Y2), hmp.1, by rw [HXY.out]; exact hmp.2, o3', hg3'⟩
              · have B1 : m < E := by omega
                have B2 : ¬ M < E := by omega
                have z1 : X1 = [] := List.eq_nil_of_length_eq_zero (by omega)
                have hT1 : Srt key (X1 ++ Y1) := by rw [z1]; simpa using hsy1
                have hF1 : SF key (X1 ++ Y1) (X1 ++ Y1) := SF.refl _
                clear z1
                have z2 : X2 = [] := List.eq_nil_of_length_eq_zero (by omega)
                have hT2 : Srt key (X2 ++ Y2) := by rw [z2]; simpa using hsy2
                have hF2 : SF key (X2 ++ Y2) (X2 ++ Y2) := SF.refl _
                clear z2
                have o1' : OwC base wr (some ⟨g, 0, none⟩) n c (P ++ X1 ++ Y1 ++ (X2 ++ Y2 ++ S)) := by
                  have z3 : X2 = [] := List.eq_nil_of_length_eq_zero (by omega)
                  rw [z3] at oi ⊢; simpa using oi
                have hg1' := hgi
                have o2' : OwC base wr (some ⟨g, 0, none⟩) n c (P ++ (X1 ++ Y1) ++ X2 ++ Y2 ++ S) := by simpa using o1'
                have hg2' := hg1'
                have o3' : OwC base wr (some ⟨g, 0, none⟩) n c (P ++ ((X1 ++ Y1) ++ (X2 ++ Y2)) ++ S) := by simpa using o2'
                have hg3' := hg2'
                go_wp2
                go_end0
                have hmp := HMP.out (X1 ++ Y1) (X2 ++ Y2) hT1 hF1 hT2 hF2
                exact ⟨rfl, (X1 ++ Y1) ++ (X2 ++ Y2), hmp.1, by rw [HXY.out]; exact hmp.2, o3', hg3'⟩
          · by_cases A3 : a < r
            · by_cases A4 : E < b
              · have B1 : ¬ m < E := by omega
                have B2 : ¬ M < E := by omega
                have z1 : Y1 = [] := List.eq_nil_of_length_eq_zero (by omega)
                have hT1 : Srt key (X1 ++ Y1) := by rw [z1]; simpa using hsx1
                have hF1 : SF key (X1 ++ Y1) (X1 ++ Y1) := SF.refl _
                clear z1
                have z2 : X2 = [] := List.eq_nil_of_length_eq_zero (by omega)
                have hT2 : Srt key (X2 ++ Y2) := by rw [z2]; simpa using hsy2
                have hF2 : SF key (X2 ++ Y2) (X2 ++ Y2) := SF.refl _
                clear z2
                have o1' : OwC base wr (some ⟨g, 0, none⟩) n c (P ++ X1 ++ Y1 ++ (X2 ++ Y2 ++ S)) := by
                  have z3 : X2 = [] := List.eq_nil_of_length_eq_zero (by omega)
                  rw [z3] at oi ⊢; simpa using oi
                have hg1' := hgi
                have o2' : OwC base wr (some ⟨g, 0, none⟩) n c (P ++ (X1 ++ Y1) ++ X2 ++ Y2 ++ S) := by simpa using o1'
                have hg2' := hg1'
                have o3' : OwC base wr (some ⟨g, 0, none⟩) n c (P ++ ((X1 ++ Y1) ++ (X2 ++ Y2)) ++ S) := by simpa using o2'
                have hg3' := hg2'
                go_wp2
                go_end0
                have hmp := HMP.out (X1 ++ Y1) (X2 ++ Y2) hT1 hF1 hT2 hF2
                exact ⟨rfl, (X1 ++ Y1) ++ (X2 ++ Y2), hmp.1, by rw [HXY.out]; exact hmp.2, o3', hg3'⟩
              · have B1 : ¬ m < E := by omega
                have B2 : ¬ M < E := by omega
                have z1 : Y1 = [] := List.eq_nil_of_length_eq_zero (by omega)
                have hT1 : Srt key (X1 ++ Y1) := by rw [z1]; simpa using hsx1
                have hF1 : SF key (X1 ++ Y1) (X1 ++ Y1) := SF.refl _
                clear z1
                have z2 : X2 = [] := List.eq_nil_of_length_eq_zero (by omega)
                have hT2 : Srt key (X2 ++ Y2) := by rw [z2]; simpa using hsy2
                have hF2 : SF key (X2 ++ Y2) (X2 ++ Y2) := SF.refl _
                clear z2
                have o1' : OwC base wr (some ⟨g, 0, none⟩) n c (P ++ X1 ++ Y1 ++ (X2 ++ Y2 ++ S)) := by
                  have z3 : X2 = [] := List.eq_nil_of_length_eq_zero (by omega)
                  rw [z3] at oi ⊢; simpa using oi
                have hg1' := hgi
                have o2' : OwC base wr (some ⟨g, 0, none⟩) n c (P ++ (X1 ++ Y1) ++ X2 ++ Y2 ++ S) := by simpa using o1'
                have hg2' := hg1'
                have o3' : OwC base wr (some ⟨g, 0, none⟩) n c (P ++ ((X1 ++ Y1) ++ (X2 ++ Y2)) ++ S) := by simpa using o2'
                have hg3' := hg2'
                go_wp2
                go_end0
                have hmp := HMP.out (X1 ++ Y1) (X2 ++ Y2) hT1 hF1 hT2 hF2
                exact ⟨rfl, (X1 ++ Y1) ++ (X2 ++ Y2), hmp.1, by rw [HXY.out]; exact hmp.2, o3', hg3'⟩
            · by_cases A4 : E < b
              · have B1 : ¬ m < E := by omega
                have B2 : ¬ M < E := by omega
                have z1 : X1 = [] := List.eq_nil_of_length_eq_zero (by omega)
                have hT1 : Srt key (X1 ++ Y1) := by rw [z1]; simpa using hsy1
                have hF1 : SF key (X1 ++ Y1) (X1 ++ Y1) := SF.refl _
                clear z1
                have z2 : X2 = [] := List.eq_nil_of_length_eq_zero (by omega)
                have hT2 : Srt key (X2 ++ Y2) := by rw [z2]; simpa using hsy2
                have hF2 : SF key (X2 ++ Y2) (X2 ++ Y2) := SF.refl _
                clear z2
                have o1' : OwC base wr (some ⟨g, 0, none⟩) n c (P ++ X1 ++ Y1 ++ (X2 ++ Y2 ++ S)) := by
                  have z3 : X2 = [] := List.eq_nil_of_length_eq_zero (by omega)
                  rw [z3] at oi ⊢; simpa using oi
                have hg1' := hgi
                have o2' : OwC base wr (some ⟨g, 0, none⟩) n c (P ++ (X1 ++ Y1) ++ X2 ++ Y2 ++ S) := by simpa using o1'
                have hg2' := hg1'
                have o3' : OwC base wr (some ⟨g, 0, none⟩) n c (P ++ ((X1 ++ Y1) ++ (X2 ++ Y2)) ++ S) := by simpa using o2'
                have hg3' := hg2'
                go_wp2
                go_end0
                have hmp := HMP.out (X1 ++ Y1) (X2 ++ Y2) hT1 hF1 hT2 hF2
                exact ⟨rfl, (X1 ++ Y1) ++ (X2 ++ Y2), hmp.1, by rw [HXY.out]; exact hmp.2, o3', hg3'⟩
              · have B1 : ¬ m < E := by omega
                have B2 : ¬ M < E := by omega
                have z1 : X1 = [] := List.eq_nil_of_length_eq_zero (by omega)
                have hT1 : Srt key (X1 ++ Y1) := by rw [z1]; simpa using hsy1
                have hF1 : SF key (X1 ++ Y1) (X1 ++ Y1) := SF.refl _
                clear z1
                have z2 : X2 = [] := List.eq_nil_of_length_eq_zero (by omega)
                have hT2 : Srt key (X2 ++ Y2) := by rw [z2]; simpa using hsy2
                have hF2 : SF key (X2 ++ Y2) (X2 ++ Y2) := SF.refl _
                clear z2
                have o1' : OwC base wr (some ⟨g, 0, none⟩) n c (P ++ X1 ++ Y1 ++ (X2 ++ Y2 ++ S)) := by
                  have z3 : X2 = [] := List.eq_nil_of_length_eq_zero (by omega)
                  rw [z3] at oi ⊢; simpa using oi
                have hg1' := hgi
                have o2' : OwC base wr (some ⟨g, 0, none⟩) n c (P ++ (X1 ++ Y1) ++ X2 ++ Y2 ++ S) := by simpa using o1'
                have hg2' := hg1'
                have o3' : OwC base wr (some ⟨g, 0, none⟩) n c (P ++ ((X1 ++ Y1) ++ (X2 ++ Y2)) ++ S) := by simpa using o2'
                have hg3' := hg2'
                go_wp2
                go_end0
                have hmp := HMP.out (X1 ++ Y1) (X2 ++ Y2) hT1 hF1 hT2 hF2
                exact ⟨rfl, (X1 ++ Y1) ++ (X2 ++ Y2), hmp.1, by rw [HXY.out]; exact hmp.2, o3', hg3'⟩
end Go.Proofs.YtpjaiihkgeabiaaDoor
