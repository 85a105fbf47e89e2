/- The library's stable sort of cues: the walk. Conditions: lengths below 2^40. -/
import Derived.Test.YtpjaiihkgeabiaaDoorStableC6
set_option linter.unusedVariables false
set_option linter.unusedSimpArgs false
set_option maxRecDepth 100000
namespace Go.Proofs.YtpjaiihkgeabiaaDoor
open Go.RowKit
theorem blkC_step {key : T3 → Int} {A L T : List T3} {a b : Nat} (hA : A.length = a) (hF : SF key A (L.take a)) (hT : SF key T (((A ++ L.drop a).drop a).take (b - a))) (hab : a ≤ b) : SF key (A ++ T) (L.take b) ∧ (A ++ L.drop a).take a ++ T ++ (A ++ L.drop a).drop b = (A ++ T) ++ L.drop b := by
  have e1 : (A ++ L.drop a).drop a = L.drop a := by rw [← hA]; simp
  have e2 : (A ++ L.drop a).take a = A := by rw [← hA]; simp
  have e3 : (A ++ L.drop a).drop b = L.drop b := by
    rw [List.drop_append, List.drop_of_length_le (by omega), List.drop_drop, hA, show a + (b - a) = b by omega]; simp
  rw [e1] at hT
  refine ⟨?_, by rw [e2, e3]⟩
  have e4 : L.take b = L.take a ++ (L.drop a).take (b - a) := by rw [← List.take_add, show a + (b - a) = b by omega]
  rw [e4]
  exact hF.append hT
theorem subC_sf {key : T3 → Int} {A L : List T3} {a : Nat} (hF : SF key A (L.take a)) : ∀ z ∈ A ++ L.drop a, z ∈ L := fun z hz => by
  rcases List.mem_append.1 hz with h | h
  · exact List.mem_of_mem_take (hF.mem h)
  · exact List.mem_of_mem_drop h
def StPostC (key : T3 → Int) (base g n c : Nat) (L : List T3) (w : World) (e : Ending) (w' : World) : Prop := e = .returned (.tuple #[]) ∧ ∃ T, Srt key T ∧ SF key T L ∧ OwC base w' (some ⟨g, 0, none⟩) n c T ∧ w.grownBy w' (some g)
set_option maxHeartbeats 4000000 in
theorem stableC_any (w : World) (base g n c : Nat) (L : List T3) (key : T3 → Int) (p : Addr) (ho : OwC base w (some ⟨g, 0, none⟩) n c L) (hn : n ≤ 1099511627776) (hC : CmpC key L) :
    Calls Tryd.prog 116 #[.slice (some ⟨g, 0, none⟩) n c, .int .i64 n, (.func (.func 101) #[] #[])] w (StPostC key base g n c L w) := by
  have hl := ho.len
  go_enter Tryd.func116, Tryd.ntmps116
  go_wp2
  go_loopw [7, 8] (fun u v wr => ∃ (a b : Nat) (A : List T3), (b ≤ a + 20 ∧ a + 20 ≤ b ∧ a ≤ n) ∧ u = .int .i64 a ∧ v = .int .i64 b ∧ Hid (A.length = a) ∧ Hid (BlC key 20 A) ∧ Hid (SF key A (L.take a)) ∧ OwC base wr (some ⟨g, 0, none⟩) n c (A ++ L.drop a) ∧ w.grownBy wr (some g)) (fun u _ _ => n - (intOf u).toNat)
  case atStart => exact ⟨0, 20, [], by omega, rfl, rfl, rfl, BlC.nil, (by simp [SF] : SF key [] (L.take 0)), by simpa using ho, World.grownBy.refl _ _⟩
  case round =>
    obtain ⟨a, b, A, ⟨hb1, hb2, han⟩, rfl, rfl, HAl, HAb, HAf, oi, hgi⟩ := hrel
    have hCi := hC.sub (subC_sf HAf.out)
    by_cases hlt : b ≤ n
    · have cI := insSortC_any wr base g n c _ a b key p oi hn (by omega) hlt hCi
      have HST := Lib.hid (fun T (hT : SF key T (((A ++ L.drop a).drop a).take (b - a))) => blkC_step (L := L) HAl.out HAf.out hT (by omega))
      generalize A ++ L.drop a = D at *
      go_wp2_with ((go_at_call 125; ((with_reducible refine (cI).mono ?_); rintro e w' ⟨rfl, T, hT1, hF1, o1, hg1⟩; (have HT1 := Lib.hid hT1); (have HF1 := Lib.hid hF1); (have HO1 := Lib.hid o1); (have HG1 := Lib.hid hg1); (clear hT1 hF1 o1 hg1))))
      go_roundw
      case rel =>
        have hst := HST.out T HF1.out
        have hTl := HF1.out.len
        have o2 := HO1.out
        rw [hst.2] at o2
        have hol := o2.len
        have hlT : T.length = 20 := by
          simp only [List.length_append, List.length_drop] at hol
          have := HAl.out
          omega
        refine ⟨b, b + 20, A ++ T, by omega, rfl, by go_num, by show _ = _; rw [List.length_append, HAl.out]; omega, HAb.out.snoc hlT HT1.out, hst.1, o2, hgi.trans HG1.out⟩
      case measure => simp [intOf]; omega
    · have cI := insSortC_any wr base g n c _ a n key p oi hn (by omega) (Nat.le_refl _) hCi
      have HST := Lib.hid (fun T (hT : SF key T (((A ++ L.drop a).drop a).take (n - a))) => blkC_step (L := L) HAl.out HAf.out hT (by omega))
      generalize A ++ L.drop a = D at *
      go_wp2_with ((go_at_call 125; ((with_reducible refine (cI).mono ?_); rintro e w' ⟨rfl, T, hT1, hF1, o1, hg1⟩; (have HT1 := Lib.hid hT1); (have HF1 := Lib.hid hF1); (have HO1 := Lib.hid o1); (have HG1 := Lib.hid hg1); (clear hT1 hF1 o1 hg1))))
      have H0 : Hid (∃ A R : List T3, BlC key 20 A ∧ Srt key R ∧ R.length < 20 ∧ SF key (A ++ R) L ∧ OwC base w' (some ⟨g, 0, none⟩) n c (A ++ R) ∧ w.grownBy w' (some g)) := by
        have hst := HST.out T HF1.out
        have o2 := HO1.out
        rw [hst.2, List.drop_of_length_le (by omega), List.append_nil] at o2
        have hol := o2.len
        rw [List.length_append, HAl.out] at hol
        refine ⟨A, T, HAb.out, HT1.out, by omega, ?_, o2, hgi.trans HG1.out⟩
        have h := hst.1
        rw [List.take_of_length_le (by omega)] at h
        exact h
      clear HST HT1 HF1 HO1 HG1 HAl HAb HAf hgi cI oi hCi
      go_loopw [6] (fun t wr => ∃ (k : Nat) (A R : List T3), (20 ≤ k ∧ k ≤ 2199023255552) ∧ t = .int .i64 k ∧ Hid (BlC key k A) ∧ Hid (Srt key R) ∧ Hid (R.length < k) ∧ Hid (SF key (A ++ R) L) ∧ OwC base wr (some ⟨g, 0, none⟩) n c (A ++ R) ∧ w.grownBy wr (some g)) (fun t _ => n - (intOf t).toNat)
      case atStart =>
        obtain ⟨A, R, h1, h2, h3, h4, h5, h6⟩ := H0.out
        exact ⟨20, A, R, by omega, rfl, h1, h2, h3, h4, h5, h6⟩
      case round =>
        clear H0
        obtain ⟨k, A0, R, ⟨hk20, hkM⟩, rfl, HB, HR, HRl, HF, oi, hgi⟩ := hrel
        by_cases hkn : k < n
        · have H1 : Hid (∃ A B : List T3, A.length = 0 ∧ BlC key (2 * k) A ∧ BlC key k B ∧ SF key (A ++ B ++ R) L ∧ OwC base wr (some ⟨g, 0, none⟩) n c (A ++ B ++ R)) := ⟨[], A0, rfl, .nil, HB.out, by simpa using HF.out, by simpa using oi⟩
          clear HB HF oi
          go_wp2
          go_loopw [7, 8] (fun u v ws => ∃ (a b : Nat) (A B : List T3), (b ≤ a + 2 * k ∧ a + 2 * k ≤ b ∧ a ≤ n) ∧ u = .int .i64 a ∧ v = .int .i64 b ∧ Hid (A.length = a) ∧ Hid (BlC key (2 * k) A) ∧ Hid (BlC key k B) ∧ Hid (SF key (A ++ B ++ R) L) ∧ OwC base ws (some ⟨g, 0, none⟩) n c (A ++ B ++ R) ∧ w.grownBy ws (some g)) (fun u _ _ => n - (intOf u).toNat)
          case atStart =>
            obtain ⟨A, B, h1, h2, h3, h4, h5⟩ := H1.out
            exact ⟨0, 2 * k, A, B, by omega, rfl, by go_num, h1, h2, h3, h4, h5, hgi⟩
          case round =>
            clear H1 hgi
            obtain ⟨a, b, A, B, ⟨hb1, hb2, han⟩, rfl, rfl, HAl, HA, HB, HF, os, hgs⟩ := hrel
            have hol := os.len
            simp only [List.length_append] at hol
            have hAl := HAl.out
            have hRl := HRl.out
            by_cases hlt : b ≤ n
            · obtain ⟨X, D1, rfl, hXl, hXs, hD1⟩ := HB.out.one (by omega) (by omega)
              simp only [List.length_append] at hol
              have hD1p := hD1.mult (by omega)
              obtain ⟨Y, D2, rfl, hYl, hYs, hD2⟩ := hD1.one hD1p (by omega)
              obtain ⟨m, hm⟩ : ∃ m, a + k = m := ⟨_, rfl⟩
              have hmI : (a : Int) + k = (m : Int) := by omega
              have e : A ++ (X ++ (Y ++ D2)) ++ R = A ++ X ++ Y ++ (D2 ++ R) := by simp
              have HF' := Lib.hid (e ▸ HF.out)
              rw [e] at os
              have cS := symMergeC_ok base g n c key p hn (X.length + Y.length + 1) wr A X Y (D2 ++ R) a m b os hAl (by omega) (by omega) (by omega) (by omega) (by omega) hXs hYs (hC.sub fun z hz => HF'.out.mem hz)
              have HM := Lib.hid hm
              have HXl := Lib.hid hXl
              have HYl := Lib.hid hYl
              have HD2 := Lib.hid hD2
              clear hm hXl hYl hD2 hD1 hD1p e os hXs hYs hAl hol HB HF
              go_wp2_with ((go_at_call 126; ((with_reducible refine (cS).mono ?_); rintro e w' ⟨rfl, T, hT1, hF1, o1, hg1⟩; (have HT1 := Lib.hid hT1); (have HF1 := Lib.hid hF1); (have HO1 := Lib.hid o1); (have HG1 := Lib.hid hg1); (clear hT1 hF1 o1 hg1))))
              go_roundw
              case rel =>
                have hTl := HF1.out.len
                rw [List.length_append, HXl.out, HYl.out] at hTl
                refine ⟨b, b + 2 * k, A ++ T, D2, by omega, rfl, by go_num, by show _ = _; rw [List.length_append, HAl.out]; omega, HA.out.snoc (by omega) HT1.out, HD2.out, ?_, by simpa using HO1.out, hgs.trans HG1.out⟩
                have h7 : SF key (A ++ T ++ D2 ++ R) (A ++ (X ++ Y) ++ D2 ++ R) := (((SF.refl A).append HF1.out).append (SF.refl D2)).append (SF.refl R)
                exact h7.trans (by simpa using HF'.out)
              case measure => simp [intOf]; omega
            · obtain ⟨m, hm⟩ : ∃ m, a + k = m := ⟨_, rfl⟩
              have hmI : (a : Int) + k = (m : Int) := by omega
              by_cases hmn : m < n
              · obtain ⟨X, D1, rfl, hXl, hXs, hD1⟩ := HB.out.one (by
                  rcases Nat.lt_or_ge B.length k with h | h
                  · have := HB.out.lone h; subst this; simp at hol; omega
                  · exact h) (by omega)
                simp only [List.length_append] at hol
                obtain rfl := hD1.lone (by omega)
                rw [List.append_nil] at os
                have hF := HF.out
                rw [List.append_nil] at hF
                simp only [List.length_nil] at hol
                have HF' := Lib.hid hF
                have cS := symMergeC_ok base g n c key p hn (X.length + R.length + 1) wr A X R [] a m n (by simpa using os) hAl (by omega) (by omega) (by omega) (by omega) (by omega) hXs HR.out (hC.sub fun z hz => HF'.out.mem (by simpa using hz))
                have HM := Lib.hid hm
                have HXl := Lib.hid hXl
                clear hm hXl hF hD1 os hXs hAl hol HB HF
                go_wp2_with ((go_at_call 126; ((with_reducible refine (cS).mono ?_); rintro e w' ⟨rfl, T, hT1, hF1, o1, hg1⟩; (have HT1 := Lib.hid hT1); (have HF1 := Lib.hid hF1); (have HO1 := Lib.hid o1); (have HG1 := Lib.hid hg1); (clear hT1 hF1 o1 hg1))))
                go_roundw
                case rel =>
                  have hTl := HF1.out.len
                  rw [List.length_append, HXl.out] at hTl
                  refine ⟨2 * k, A, T, by omega, by go_num, HA.out, HT1.out, by show _ < _; omega, ?_, by simpa using HO1.out, hgs.trans HG1.out⟩
                  have h7 : SF key (A ++ T) (A ++ (X ++ R)) := (SF.refl A).append HF1.out
                  exact h7.trans (by simpa using HF'.out)
                case measure => simp [intOf]; omega
              · have hsm := HB.out.small HR.out (by omega) (by omega)
                have HS := Lib.hid hsm
                have HL := Lib.hid (show (B ++ R).length < 2 * k by rw [List.length_append]; omega)
                have HM := Lib.hid hm
                clear hm hsm hol hAl
                go_wp2
                go_roundw
                case rel => exact ⟨2 * k, A, B ++ R, by omega, by go_num, HA.out, HS.out, HL.out, by have := HF.out; rw [List.append_assoc] at this; exact this, by rw [← List.append_assoc]; exact os, hgs⟩
                case measure => simp [intOf]; omega
        · have hol := oi.len
          rw [List.length_append] at hol
          have HS := Lib.hid (HB.out.small HR.out (by omega) (by omega))
          clear hol
          go_wp2
          go_end0
          exact ⟨rfl, _, HS.out, HF.out, oi, hgi⟩
end Go.Proofs.YtpjaiihkgeabiaaDoor
