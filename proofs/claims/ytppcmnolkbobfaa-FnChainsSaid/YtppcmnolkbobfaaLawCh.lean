/- The law FnChains returns true for every input. Conditions: none. -/
import Derived.Test.YtppcmnolkbobfaaDraw8
import Derived.Test.YtppcmnolkbobfaaChainQ
import Derived.Test.YtppcmnolkbobfaaLiftByte
import Derived.Test.YtppcmnolkbobfaaLawKit
import Derived.Deep.RegionHeld3
import Derived.Deep.DeepCutAuto
set_option linter.unusedVariables false
set_option linter.unusedSimpArgs false
set_option maxRecDepth 100000
namespace Go.Proofs.Ytppcmnolkbobfaa
open Go.ChangeShapes Go.WideShapes Go.ChangeAt Go.RowKit
def RetAnyB (w : World) (e : Ending) (w' : World) : Prop := (∃ b, e = .returned (.bool b)) ∧ w = w'
theorem big_any (w : World) (A B : Option Addr) (n m c d : Nat) (hn : n ≤ 9223372036854775807) (hm : m ≤ 9223372036854775807) :
    Calls Try.prog 21 #[.slice A n c, .slice B m d] w (RetAnyB w) := by
  by_cases h1 : (1048576 : Int) < n
  · go_enter Try.func21, Try.ntmps21
    go_wp2
    go_ret
    exact ⟨⟨_, rfl⟩, rfl⟩
  · go_enter Try.func21, Try.ntmps21
    go_wp2
    go_ret
    exact ⟨⟨_, rfl⟩, rfl⟩
set_option maxHeartbeats 400000 in
theorem pSameNames_any (w : World) (A B : Option Addr) (n m c d : Nat) (l : List ByteArray) (ha : RdT w A n l) (hb : RdT w B m l) (hn : n ≤ 1099511627776) :
    Calls Try.prog 33 #[.slice A n c, .slice B m d] w fun e w' => e = .returned (.bool true) ∧ ∃ x, w' = ext w x := by
  obtain rfl : n = m := ha.len.symm.trans hb.len
  go_enter Try.func33, Try.ntmps33
  go_wp2
  go_loopw [5, 13] (fun _ i wr => ∃ k x, k ≤ n ∧ i = .int .i64 (k : Nat) ∧ wr = ext w x) (fun _ i _ => n - (intOf i).toNat)
  case atStart => exact ⟨0, _, Nat.zero_le _, rfl, ext_self w⟩
  case round =>
    obtain ⟨k, x, hk, rfl, rfl⟩ := hrel
    by_cases hlt : k < n
    · obtain ⟨b1, o1, rfl, hb1, hc1⟩ := ha.open_ (by omega)
      obtain ⟨b2, o2, rfl, hb2, hc2⟩ := hb.open_ (by omega)
      have hq1 := hc1 k hlt
      have hq2 := hc2 k hlt
      clear hc1 hc2
      generalize l[k]?.getD ByteArray.empty = sk at *
      go_wp2
      go_quiet (fail)
      go_wp2
      go_roundw
      case rel => exact ⟨k + 1, _, by omega, by go_num, (ext_ex (by repeat (first | exact Below.refl _ _ | assumption | refine bExt ?_ _ | refine bAlloc ?_ _ | refine bDrewN ?_ _ | refine bDrew ?_ | refine bSet ?_ (by first | exact Nat.le_refl _ | omega | (simp; done) | (simp; omega)) _))).choose_spec⟩
      case measure => simp [intOf]; omega
    · go_wp2
      go_ret
      exact ⟨rfl, _, rfl⟩
theorem sameInts_self (w : World) (A B : Option Addr) (n m c d : Nat) (l : List Int) (ha : RdI w A n l) (hb : RdI w B m l) (hn : n ≤ 1099511627776) :
    Calls Try.prog 25 #[.slice A n c, .slice B m d] w fun e w' => e = .returned (.bool true) ∧ ∃ x, w' = ext w x :=
  (sameInts_any w A B n m c d l l ha hb hn).mono fun e w' h => ⟨by rw [h.1, sameB_iff.2 rfl], h.2⟩
set_option maxHeartbeats 4000000 in
theorem law_Chains (w : World) (A0 : Option Addr) (n0 c0 : Nat) (l0 : List Int) (ha0 : RdY w A0 n0 l0) (hm0 : n0 ≤ 9223372036854775807) (A1 : Option Addr) (n1 c1 : Nat) (l1 : List Int) (ha1 : RdY w A1 n1 l1) (hm1 : n1 ≤ 9223372036854775807) :
    Calls Try.prog 4 #[.slice A0 n0 c0, .slice A1 n1 c1] w fun e w' => e = .returned (.bool true) ∧ Below w.heap.size w w' := by
  go_enter Try.func4, Try.ntmps4
  go_wp2_with fail
  refine (big_any _ _ _ _ _ _ _ hm0 hm1).mono ?_
  rintro e w1 ⟨⟨b, rfl⟩, rfl⟩
  cases b
  case true =>
    go_wp2
    go_ret
    exact ⟨rfl, by repeat (first | exact Below.refl _ _ | assumption | refine bExt ?_ _ | refine bAlloc ?_ _ | refine bDrewN ?_ _ | refine bDrew ?_ | refine bSet ?_ (by first | exact Nat.le_refl _ | omega | (simp; done) | (simp; omega)) _)⟩
  go_wp2_with fail
  refine (drawChainOf_any _ _ _ _ _ ha0 hm0).mono ?_
  rintro e w1 ⟨A, n, c, L, x1, rfl, hn, hS, rfl, oA⟩
  have hS' : ∀ s ∈ L, s.size ≤ 9223372036854775807 := fun s hs => Nat.le_trans (hS s hs) (by omega)
  go_wp2_with fail
  refine (implChainOf_any _ _ _ _ _ (oA.rd.below (by repeat (first | exact Below.refl _ _ | assumption | refine bExt ?_ _ | refine bAlloc ?_ _ | refine bDrewN ?_ _ | refine bDrew ?_ | refine bSet ?_ (by first | exact Nat.le_refl _ | omega | (simp; done) | (simp; omega)) _))) (by omega) hS').mono ?_
  rintro e w1 ⟨B, m, d, x2, rfl, rfl, oB⟩
  go_wp2_with fail
  refine (specChainOf_any _ _ _ _ _ (oA.rd.below (by repeat (first | exact Below.refl _ _ | assumption | refine bExt ?_ _ | refine bAlloc ?_ _ | refine bDrewN ?_ _ | refine bDrew ?_ | refine bSet ?_ (by first | exact Nat.le_refl _ | omega | (simp; done) | (simp; omega)) _))) (by omega) hS').mono ?_
  rintro e w1 ⟨C, q, f, x3, rfl, rfl, oC⟩
  have hm : m ≤ 1099511627776 := by rw [← oB.len]; exact Nat.le_trans (chainR_len L) (by omega)
  go_upto_if 74 with ((go_at_call 25; ((with_reducible refine (sameInts_self _ _ _ _ _ _ _ _ (oB.rd.below (by repeat (first | exact Below.refl _ _ | assumption | refine bExt ?_ _ | refine bAlloc ?_ _ | refine bDrewN ?_ _ | refine bDrew ?_ | refine bSet ?_ (by first | exact Nat.le_refl _ | omega | (simp; done) | (simp; omega)) _))) (oC.rd.below (by repeat (first | exact Below.refl _ _ | assumption | refine bExt ?_ _ | refine bAlloc ?_ _ | refine bDrewN ?_ _ | refine bDrew ?_ | refine bSet ?_ (by first | exact Nat.le_refl _ | omega | (simp; done) | (simp; omega)) _))) hm).mono ?_); rintro e w' ⟨rfl, x4, rfl⟩)))
  generalize hw1 : ext (ext (ext (ext w x1) x2) x3) x4 = w1
  have bW : Below w.heap.size w w1 := by rw [← hw1]; repeat (first | exact Below.refl _ _ | assumption | refine bExt ?_ _ | refine bAlloc ?_ _ | refine bDrewN ?_ _ | refine bDrew ?_ | refine bSet ?_ (by first | exact Nat.le_refl _ | omega | (simp; done) | (simp; omega)) _)
  have rA : RdT w1 A n L := oA.rd.below (by rw [← hw1]; repeat (first | exact Below.refl _ _ | assumption | refine bExt ?_ _ | refine bAlloc ?_ _ | refine bDrewN ?_ _ | refine bDrew ?_ | refine bSet ?_ (by first | exact Nat.le_refl _ | omega | (simp; done) | (simp; omega)) _))
  have rB : RdI w1 B m (chainR L) := oB.rd.below (by rw [← hw1]; repeat (first | exact Below.refl _ _ | assumption | refine bExt ?_ _ | refine bAlloc ?_ _ | refine bDrewN ?_ _ | refine bDrew ?_ | refine bSet ?_ (by first | exact Nat.le_refl _ | omega | (simp; done) | (simp; omega)) _))
  have rC : RdI w1 C q (chainR L) := oC.rd.below (by rw [← hw1]; repeat (first | exact Below.refl _ _ | assumption | refine bExt ?_ _ | refine bAlloc ?_ _ | refine bDrewN ?_ _ | refine bDrew ?_ | refine bSet ?_ (by first | exact Nat.le_refl _ | omega | (simp; done) | (simp; omega)) _))
  have cA := oA.cap_
  clear hw1 oA oB oC
  have hn' : n ≤ 1099511627776 := by omega
  generalize hok : recsB L = ok
  have Hok := Lib.hid hok
  clear hok
  go_cut [] (fun wx => Below w1.heap.size w1 wx)
  case first => as_aux_lemma =>
    cases ok
    · go_wp2
      go_meet
      exact Below.refl _ _
    · rw [chainR_yes Hok.out] at rB rC
      have hd := dmg_own Hok.out
      have hl := rA.len
      have hlB := rB.len
      rw [chainV_len, hl] at hlB
      have cd := implFirstDamage_any w1 A B n m c d L (chainV L) rA rB hn' hm hS'
      rw [hd.1, hd.2, hl] at cd
      clear hd
      have Hl := Lib.hid hl
      have HlB := Lib.hid hlB
      clear hl hlB
      go_wp2_with ((go_at_call 26; ((with_reducible refine (cd).mono ?_); rintro e w' ⟨rfl, z1, rfl⟩)))
      clear cd
      go_loopw [12, 13, 14, 15, 16, 17, 18, 91] (fun last _ _ _ _ _ _ i wr => ∃ k : Nat, k ≤ n ∧ i = .int .i64 k ∧ last = .int .i64 (linkAt L k) ∧ Below w1.heap.size w1 wr) (fun _ _ _ _ _ _ _ i _ => n - (intOf i).toNat)
      case atStart => exact ⟨0, by omega, rfl, rfl, ext_below _ _⟩
      case round =>
        obtain ⟨k, hk, rfl, rfl, hbl⟩ := hrel
        by_cases hlt : k < n
        · obtain ⟨b, off, rfl, hb, hc⟩ := rA.open_ (by omega)
          have hck := hc k hlt
          have hqn : q = n := by rw [← rC.len, chainV_len]; exact Hl.out
          obtain ⟨b2, off2, rfl, hb2, hc2⟩ := rC.open_ (by omega)
          have hck2 := hc2 k (by omega)
          rw [List.getD_eq_getElem?_getD, chainV_get L k (by rw [Hl.out]; exact hlt)] at hck2
          have hs := link_step Hok.out k (by rw [Hl.out]; exact hlt)
          have hsk := hS' _ (getD_mem ByteArray.empty L k (by rw [Hl.out]; exact hlt))
          have ci := fun W => implLinkOf_any (linkAt L k) (L[k]?.getD ByteArray.empty) W hsk
          have cs := fun W => specLinkOf_any (linkAt L k) (L[k]?.getD ByteArray.empty) W hsk
          simp only [hs.1, hs.2] at ci cs
          have hkq : (k : Int) < q := by omega
          clear hs hc hc2 hqn hsk
          have hck' := (hbl.cell (p := ⟨b, off + k, none⟩) hb).trans hck
          have hck2' := (hbl.cell (p := ⟨b2, off2 + k, none⟩) hb2).trans hck2
          have HB := Lib.hid (Eq.refl (linkAt L (k + 1)))
          generalize hlb : linkAt L (k + 1) = lb at ci cs hck2 hck2'
          have HL := Lib.hid hlb
          clear hlb HB
          generalize L[k]?.getD ByteArray.empty = sk at *
          generalize linkAt L k = la at *
          go_wp2_with (first | (go_at_call 27; ((with_reducible refine (ci _).mono ?_); rintro e w' ⟨rfl, rfl⟩)) | (go_at_call 28; ((with_reducible refine (cs _).mono ?_); rintro e w' ⟨rfl, rfl⟩)))
          go_roundw
          case rel => exact ⟨k + 1, by omega, by go_num, by rw [HL.out], hbl⟩
          case measure => simp [intOf]; omega
        · by_cases hnI : ¬ (0 : Int) < n
          · go_wp2
            go_meet
            exact hbl
          · obtain ⟨m', hm'⟩ : ∃ m', n = m' + 1 := ⟨n - 1, by omega⟩
            have he := ext_last Hok.out (n := m') (by rw [Hl.out]; exact hm')
            have hqn : q = n := by rw [← rC.len, chainV_len]; exact Hl.out
            have hI : (n : Int) - 1 = m' := by omega
            have hmn : (m' : Int) < n := by omega
            have hmc : (m' : Int) ≤ c := by omega
            have hnI : (0 : Int) < n := by omega
            have hnz : 0 < n := by omega
            obtain ⟨b, off, rfl, hb, hc⟩ := rA.open_ (by omega)
            have hck := hc m' (by omega)
            have hsk := hS' _ (getD_mem ByteArray.empty L m' (by rw [Hl.out]; omega))
            have hS2 : ∀ s ∈ L.take m', s.size ≤ 9223372036854775807 := fun s hs => hS' s (List.mem_of_mem_take hs)
            have c1 := implChainOf_any wr (some ⟨b, off, none⟩) m' c (L.take m') ((rA.below hbl).take_ m' (by omega)) (by omega) hS2
            rw [chainR_yes he.1, he.1] at c1
            have hlm : (chainV (L.take m')).length ≤ 1099511627776 := by rw [chainV_len]; simp; omega
            have c2 := fun W E p y (hE : RdI W E p (chainV (L.take m'))) => implExtendChain_any W E p y _ (L[m']?.getD ByteArray.empty) hE (by rw [← hE.len]; exact hlm) hsk
            rw [he.2.1, he.2.2] at c2
            have hck' := (hbl.cell (p := ⟨b, off + m', none⟩) hb).trans hck
            have hlm2 : (chainV L).length ≤ 1099511627776 := by rw [chainV_len, Hl.out]; omega
            have hbw := Nat.lt_of_lt_of_le hb hbl.size
            clear he hqn hm' hc hsk hS2
            generalize L[m']?.getD ByteArray.empty = sk at *
            generalize chainV (L.take m') = CT at *
            have rC' := rC.below hbl
            go_wp2_with ((go_at_call 23; ((with_reducible refine (c1).mono ?_); rintro e w' ⟨E, p, y, z1, rfl, rfl, oE⟩)))
            have oE' := oE.rd
            have hp : p ≤ 1099511627776 := by rw [← oE.len]; exact hlm
            have c3 := c2 _ _ _ y oE'
            go_wp2_with ((go_at_call 29; ((with_reducible refine (c3).mono ?_); rintro e w' ⟨F, p2, y2, z2, rfl, rfl, oF⟩)))
            have hp2 : p2 ≤ 1099511627776 := by rw [← oF.len]; exact hlm2
            go_wp2_with ((go_at_call 25; ((with_reducible refine (sameInts_self _ _ _ _ _ _ _ _ oF.rd (rC'.below (by repeat (first | exact Below.refl _ _ | assumption | refine bExt ?_ _ | refine bAlloc ?_ _ | refine bDrewN ?_ _ | refine bDrew ?_ | refine bSet ?_ (by first | exact Nat.le_refl _ | omega | (simp; done) | (simp; omega)) _))) hp2).mono ?_); rintro e w' ⟨rfl, z3, rfl⟩)))
            go_meet
            exact hbl.trans (Below.mono (by repeat (first | exact Below.refl _ _ | assumption | refine bExt ?_ _ | refine bAlloc ?_ _ | refine bDrewN ?_ _ | refine bDrew ?_ | refine bSet ?_ (by first | exact Nat.le_refl _ | omega | (simp; done) | (simp; omega)) _)) hbl.size)
  case rest => as_aux_lemma =>
    clear rA rB rC hS hS' hn hn' hm cA Hok ha0
    rename World => v1
    have bC : Below w.heap.size w v1 := bW.trans (hcut.mono bW.size)
    have ha2 := ha1.below bC
    clear hcut ha1 bW
    go_wp2_with fail
    refine (drawReplaceRecord_any _ _ _ _ _ ha2 hm1).mono ?_
    rintro e w2 ⟨A, n, c, R, k, s, x5, rfl, hn, hS, hs, rfl, oA⟩
    have hS' : ∀ s ∈ R, s.size ≤ 9223372036854775807 := fun s hs => Nat.le_trans (hS s hs) (by omega)
    have hs' : s.size ≤ 9223372036854775807 := Nat.le_trans hs (by omega)
    clear hS hs
    go_wp2_with fail
    refine (implReplaceRecord_any _ _ _ _ R k s (oA.rd.below (by repeat (first | exact Below.refl _ _ | assumption | refine bExt ?_ _ | refine bAlloc ?_ _ | refine bDrewN ?_ _ | refine bDrew ?_ | refine bSet ?_ (by first | exact Nat.le_refl _ | omega | (simp; done) | (simp; omega)) _))) (by omega) hS' hs').mono ?_
    rintro e w2 ⟨B, m, d, C, q, f, x6, rfl, rfl, oB, oC, _, _⟩
    go_wp2_with fail
    refine (specReplaceRecord_any _ _ _ _ R k s (oA.rd.below (by repeat (first | exact Below.refl _ _ | assumption | refine bExt ?_ _ | refine bAlloc ?_ _ | refine bDrewN ?_ _ | refine bDrew ?_ | refine bSet ?_ (by first | exact Nat.le_refl _ | omega | (simp; done) | (simp; omega)) _))) (by omega) hS' hs').mono ?_
    rintro e w2 ⟨D, p, g, E, r, h, x7, rfl, rfl, oD, oE, _, _⟩
    have hlA := oA.len
    have hm : m ≤ 1000 := by rw [← oB.len]; exact Nat.le_trans (repL_len _ _ _) (by omega)
    have hq : q ≤ 1000 := by rw [← oC.len]; exact Nat.le_trans (repC_len _ _ _) (by omega)
    have hm' : m ≤ 1099511627776 := by omega
    have hq' : q ≤ 1099511627776 := by omega
    clear hlA
    go_upto_if 201 with (first | (go_at_call 33; ((with_reducible refine (pSameNames_any _ _ _ _ _ _ _ _ (oB.rd.below (by repeat (first | exact Below.refl _ _ | assumption | refine bExt ?_ _ | refine bAlloc ?_ _ | refine bDrewN ?_ _ | refine bDrew ?_ | refine bSet ?_ (by first | exact Nat.le_refl _ | omega | (simp; done) | (simp; omega)) _))) (oD.rd.below (by repeat (first | exact Below.refl _ _ | assumption | refine bExt ?_ _ | refine bAlloc ?_ _ | refine bDrewN ?_ _ | refine bDrew ?_ | refine bSet ?_ (by first | exact Nat.le_refl _ | omega | (simp; done) | (simp; omega)) _))) hm').mono ?_); rintro e w' ⟨rfl, x8, rfl⟩)) | (go_at_call 25; ((with_reducible refine (sameInts_self _ _ _ _ _ _ _ _ (oC.rd.below (by repeat (first | exact Below.refl _ _ | assumption | refine bExt ?_ _ | refine bAlloc ?_ _ | refine bDrewN ?_ _ | refine bDrew ?_ | refine bSet ?_ (by first | exact Nat.le_refl _ | omega | (simp; done) | (simp; omega)) _))) (oE.rd.below (by repeat (first | exact Below.refl _ _ | assumption | refine bExt ?_ _ | refine bAlloc ?_ _ | refine bDrewN ?_ _ | refine bDrew ?_ | refine bSet ?_ (by first | exact Nat.le_refl _ | omega | (simp; done) | (simp; omega)) _))) hq').mono ?_); rintro e w' ⟨rfl, x9, rfl⟩)))
    generalize hw1 : ext (ext (ext (ext (ext v1 x5) x6) x7) x8) x9 = w1
    have bW : Below v1.heap.size v1 w1 := by rw [← hw1]; repeat (first | exact Below.refl _ _ | assumption | refine bExt ?_ _ | refine bAlloc ?_ _ | refine bDrewN ?_ _ | refine bDrew ?_ | refine bSet ?_ (by first | exact Nat.le_refl _ | omega | (simp; done) | (simp; omega)) _)
    have rA : RdT w1 A n R := oA.rd.below (by rw [← hw1]; repeat (first | exact Below.refl _ _ | assumption | refine bExt ?_ _ | refine bAlloc ?_ _ | refine bDrewN ?_ _ | refine bDrew ?_ | refine bSet ?_ (by first | exact Nat.le_refl _ | omega | (simp; done) | (simp; omega)) _))
    have rB : RdT w1 B m (repL R k s) := oB.rd.below (by rw [← hw1]; repeat (first | exact Below.refl _ _ | assumption | refine bExt ?_ _ | refine bAlloc ?_ _ | refine bDrewN ?_ _ | refine bDrew ?_ | refine bSet ?_ (by first | exact Nat.le_refl _ | omega | (simp; done) | (simp; omega)) _))
    have rC : RdI w1 C q (repC R k s) := oC.rd.below (by rw [← hw1]; repeat (first | exact Below.refl _ _ | assumption | refine bExt ?_ _ | refine bAlloc ?_ _ | refine bDrewN ?_ _ | refine bDrew ?_ | refine bSet ?_ (by first | exact Nat.le_refl _ | omega | (simp; done) | (simp; omega)) _))
    have rD : RdT w1 D p (repL R k s) := oD.rd.below (by rw [← hw1]; repeat (first | exact Below.refl _ _ | assumption | refine bExt ?_ _ | refine bAlloc ?_ _ | refine bDrewN ?_ _ | refine bDrew ?_ | refine bSet ?_ (by first | exact Nat.le_refl _ | omega | (simp; done) | (simp; omega)) _))
    have rE : RdI w1 E r (repC R k s) := oE.rd.below (by rw [← hw1]; repeat (first | exact Below.refl _ _ | assumption | refine bExt ?_ _ | refine bAlloc ?_ _ | refine bDrewN ?_ _ | refine bDrew ?_ | refine bSet ?_ (by first | exact Nat.le_refl _ | omega | (simp; done) | (simp; omega)) _))
    clear hw1 oA oB oC oD oE
    generalize hok : repOk R k s = ok
    have Hok := Lib.hid hok
    clear hok
    go_cut [] (fun wx => Below w1.heap.size w1 wx)
    case first => as_aux_lemma =>
      cases ok
      · go_wp2
        go_meet
        exact Below.refl _ _
      · obtain ⟨i, rfl, hi, hr, hL, hC, hd1, hd2, hget, hbef⟩ := rep_facts Hok.out
        have hl := rA.len
        have hlD := rD.len
        have hlE := rE.len
        rw [hL] at rB rD hlD
        rw [hC] at rC rE hlE
        rw [chainV_len] at hlE
        simp only [List.length_set] at hlD hlE
        have c1 := fun W (h : Below w1.heap.size w1 W) => implChainOf_any W A n c R (rA.below h) (by omega) hS'
        have c2 := fun W (h : Below w1.heap.size w1 W) => specChainOf_any W A n c R (rA.below h) (by omega) hS'
        have hSs : ∀ t ∈ R.set i s, t.size ≤ 9223372036854775807 := fun t ht => by
          rcases List.mem_or_eq_of_mem_set ht with h | h
          · exact hS' t h
          · rw [h]; exact hs'
        have c3 := fun W (h : Below w1.heap.size w1 W) => implFirstDamage_any W B C m q d f (R.set i s) (chainV (R.set i s)) (rB.below h) (rC.below h) hm' hq' hSs
        simp only [chainR_yes hr, hr] at c1 c2
        simp only [hd1, hd2, hl] at c3
        obtain ⟨b, off, rfl, hb, hc⟩ := rD.open_ (by omega)
        have hck := hc i (by omega)
        rw [hget] at hck
        have hip : (i : Int) < p := by omega
        have hin : i < n := by omega
        have hrn : n ≤ r := by omega
        have hlV : (chainV R).length = n := by rw [chainV_len]; exact hl
        have hV : (chainV R).length ≤ 1099511627776 := by omega
        have HlV := Lib.hid hlV
        clear hL hC hd1 hd2 hc hget hl hlD hlE hlV hSs hi
        generalize hset : chainV (R.set i s) = CS at *
        clear hset
        generalize chainV R = CR at *
        go_wp2_with ((go_at_call 23; ((with_reducible refine (c1 _ (Below.refl _ _)).mono ?_); rintro e w' ⟨F, p2, y2, z2, rfl, rfl, oF⟩)))
        have hp2 : p2 ≤ 1099511627776 := by rw [← oF.len]; exact hV
        go_wp2_with ((go_at_call 24; ((with_reducible refine (c2 _ (ext_below _ _)).mono ?_); rintro e w' ⟨G, p3, y3, z3, rfl, rfl, oG⟩)))
        have hp3 : p3 = n := by rw [← oG.len]; exact HlV.out
        have Hp3 := Lib.hid hp3
        clear hp3 c1 c2
        go_wp2_with (first | (go_at_call 26; ((with_reducible refine (c3 _ (by repeat (first | exact Below.refl _ _ | assumption | refine bExt ?_ _ | refine bAlloc ?_ _ | refine bDrewN ?_ _ | refine bDrew ?_ | refine bSet ?_ (by first | exact Nat.le_refl _ | omega | (simp; done) | (simp; omega)) _))).mono ?_); rintro e w' ⟨rfl, z4, rfl⟩)) | (go_at_call 25; ((with_reducible refine (sameInts_self _ _ _ _ _ _ _ _ (oF.rd.below (by repeat (first | exact Below.refl _ _ | assumption | refine bExt ?_ _ | refine bAlloc ?_ _ | refine bDrewN ?_ _ | refine bDrew ?_ | refine bSet ?_ (by first | exact Nat.le_refl _ | omega | (simp; done) | (simp; omega)) _))) (oG.rd.below (by repeat (first | exact Below.refl _ _ | assumption | refine bExt ?_ _ | refine bAlloc ?_ _ | refine bDrewN ?_ _ | refine bDrew ?_ | refine bSet ?_ (by first | exact Nat.le_refl _ | omega | (simp; done) | (simp; omega)) _))) hp2).mono ?_); rintro e w' ⟨rfl, z5, rfl⟩)))
        clear c3
        go_loopw [38] (fun ix wr => ∃ j : Nat, j ≤ i ∧ ix = .int .i64 j ∧ Below w1.heap.size w1 wr ∧ RdI wr G p3 CR) (fun ix _ => i - (intOf ix).toNat)
        case atStart => exact ⟨0, by omega, rfl, by repeat (first | exact Below.refl _ _ | assumption | refine bExt ?_ _ | refine bAlloc ?_ _ | refine bDrewN ?_ _ | refine bDrew ?_ | refine bSet ?_ (by first | exact Nat.le_refl _ | omega | (simp; done) | (simp; omega)) _), oG.rd.below (by repeat (first | exact Below.refl _ _ | assumption | refine bExt ?_ _ | refine bAlloc ?_ _ | refine bDrewN ?_ _ | refine bDrew ?_ | refine bSet ?_ (by first | exact Nat.le_refl _ | omega | (simp; done) | (simp; omega)) _))⟩
        case round =>
          obtain ⟨j, hj, rfl, hbl, rG⟩ := hrel
          by_cases hlt : (j : Int) < i
          · obtain ⟨b2, o2, rfl, hb2, hc2⟩ := (rE.below hbl).open_ (by omega)
            obtain ⟨b3, o3, rfl, hb3, hc3⟩ := rG.open_ (by have := Hp3.out; omega)
            have e2 := hc2 j (by omega)
            have e3 := hc3 j (by have := Hp3.out; omega)
            rw [List.getD_eq_getElem?_getD] at e2 e3
            rw [hbef j (by omega)] at e2
            have hjr : (j : Int) < r := by omega
            have hjp : (j : Int) < p3 := by have := Hp3.out; omega
            clear hc2 hc3
            generalize CR[j]?.getD 0 = v at *
            go_wp2
            go_quiet (fail)
            go_wp2
            go_roundw
            case rel => exact ⟨j + 1, by omega, by go_num, by repeat (first | exact Below.refl _ _ | assumption | refine bExt ?_ _ | refine bAlloc ?_ _ | refine bDrewN ?_ _ | refine bDrew ?_ | refine bSet ?_ (by first | exact Nat.le_refl _ | omega | (simp; done) | (simp; omega)) _), rG.below (by repeat (first | exact Below.refl _ _ | assumption | refine bExt ?_ _ | refine bAlloc ?_ _ | refine bDrewN ?_ _ | refine bDrew ?_ | refine bSet ?_ (by first | exact Nat.le_refl _ | omega | (simp; done) | (simp; omega)) _))⟩
            case measure => simp [intOf]; omega
          · go_wp2
            go_meet
            exact hbl
    case rest => as_aux_lemma =>
      clear rA rB rC rD rE hS' hn hm hm' hq hq' hs' Hok
      rename World => v2
      have bC2 : Below v1.heap.size v1 v2 := bW.trans (hcut.mono bW.size)
      have ha3 := ha2.below bC2
      have bC3 := bC.trans (bC2.mono bC.size)
      clear hcut bW ha2 bC2 bC
      go_wp2_with fail
      refine (drawFirstDamage_any _ _ _ _ _ ha3 hm1).mono ?_
      rintro e w2 ⟨A, n, c, L, B, m, d, M, x10, rfl, hn, hS, hm, rfl, oA, oB⟩
      have hS' : ∀ s ∈ L, s.size ≤ 9223372036854775807 := fun s hs => Nat.le_trans (hS s hs) (by omega)
      go_wp2_with fail
      refine (implFirstDamage_any _ _ _ _ _ _ _ L M (oA.rd.below (by repeat (first | exact Below.refl _ _ | assumption | refine bExt ?_ _ | refine bAlloc ?_ _ | refine bDrewN ?_ _ | refine bDrew ?_ | refine bSet ?_ (by first | exact Nat.le_refl _ | omega | (simp; done) | (simp; omega)) _))) (oB.rd.below (by repeat (first | exact Below.refl _ _ | assumption | refine bExt ?_ _ | refine bAlloc ?_ _ | refine bDrewN ?_ _ | refine bDrew ?_ | refine bSet ?_ (by first | exact Nat.le_refl _ | omega | (simp; done) | (simp; omega)) _))) (by omega) (by omega) hS').mono ?_
      rintro e w2 ⟨rfl, x11, rfl⟩
      go_wp2_with fail
      refine (specFirstDamage_any _ _ _ _ _ _ _ L M (oA.rd.below (by repeat (first | exact Below.refl _ _ | assumption | refine bExt ?_ _ | refine bAlloc ?_ _ | refine bDrewN ?_ _ | refine bDrew ?_ | refine bSet ?_ (by first | exact Nat.le_refl _ | omega | (simp; done) | (simp; omega)) _))) (oB.rd.below (by repeat (first | exact Below.refl _ _ | assumption | refine bExt ?_ _ | refine bAlloc ?_ _ | refine bDrewN ?_ _ | refine bDrew ?_ | refine bSet ?_ (by first | exact Nat.le_refl _ | omega | (simp; done) | (simp; omega)) _))) (by omega) (by omega) hS').mono ?_
      rintro e w2 ⟨rfl, x12, rfl⟩
      go_wp2_with fail
      refine (drawRecordDigest_any _ _ _ _ _ (ha3.below (by repeat (first | exact Below.refl _ _ | assumption | refine bExt ?_ _ | refine bAlloc ?_ _ | refine bDrewN ?_ _ | refine bDrew ?_ | refine bSet ?_ (by first | exact Nat.le_refl _ | omega | (simp; done) | (simp; omega)) _))) hm1).mono ?_
      rintro e w2 ⟨s, x13, rfl, hs, rfl⟩
      have hs' : s.size ≤ 9223372036854775807 := Nat.le_trans hs (by omega)
      go_wp2_with (first | (go_at_call 37; ((with_reducible refine (implRecordDigest_any _ _ hs').mono ?_); rintro e w' ⟨rfl, rfl⟩)) | (go_at_call 38; ((with_reducible refine (specRecordDigest_any _ _ hs').mono ?_); rintro e w' ⟨rfl, rfl⟩)))
      go_ret
      exact ⟨rfl, bC3.trans (Below.mono (by repeat (first | exact Below.refl _ _ | assumption | refine bExt ?_ _ | refine bAlloc ?_ _ | refine bDrewN ?_ _ | refine bDrew ?_ | refine bSet ?_ (by first | exact Nat.le_refl _ | omega | (simp; done) | (simp; omega)) _)) bC3.size)⟩
set_option maxRecDepth 100000 in
theorem fnChains_lifted (os : Os) (started : os.Started) (H : Type) (enc : TypeId × Value → H) :
    ReturnsInHanded {} Try.checked os 4 .any (Rows.fnChainsSpec.pre6 enc Try.prog Try.f4 Rows.fnChainsRow.domain false) (Rows.fnChainsSpec.post enc Try.prog Try.f4 false true false false) := by
  refine returnsInHanded_of_change (C := Try.checked) ownKnobNone started (by kernel_rfl) Try.func4
    (ChangeSpec.witness6 (enc := enc) (C := Try.checked) false ⟨#[], #[.slice none 0 0, .slice none 0 0], []⟩ 8 (by kernel_rfl) (by kernel_rfl) (by kernel_rfl) (by kernel_rfl)) ?_
  intro W base args ds gs before hval0 hW hcnd _
  have hval : ∀ (j : Nat) t v, Try.f4.params[j]? = some t → args[j]? = some v → Value.okWide Try.prog W .any base t v := hval0
  have hW' := hW
  obtain ⟨p, q, hA0, hV, rfl, hfz, hnd⟩ := hW
  have hA : DataW.TrodAll enc Try.prog W 0 (fun _ => true) true Try.f4.params.toList args.toList ds p := hA0
  have hAk := hA
  rw [Try.params4] at hA hval
  obtain ⟨v0, vs0, d0, ds0, p0, q0, hargs, rfl, rfl, h0, r0⟩ := trodAll_cons hA
  obtain ⟨v1, vs1, d1, ds1, p1, q1, rfl, rfl, rfl, h1, r1⟩ := trodAll_cons r0
  obtain ⟨rfl, rfl, rfl⟩ := trodAll_nil r1
  obtain rfl : args = #[v0, v1] := by cases args; simp_all
  obtain ⟨rfl, rfl⟩ := trodVars_none hV
  obtain ⟨A0, n0, c0, l0, rfl, g0, nc0, cm0⟩ := open_RdY (hval 0 22 v0 rfl rfl) h0
  obtain ⟨A1, n1, c1, l1, rfl, g1, nc1, cm1⟩ := open_RdY (hval 1 22 v1 rfl rfl) h1
  refine (law_Chains _ _ _ _ _ g0 (by simp only [maxLen] at cm0; omega) _ _ _ _ g1 (by simp only [maxLen] at cm1; omega)).mono fun e W' hh => ?_
  obtain ⟨he, bel⟩ := hh
  subst he
  exact ⟨_, rfl, _, _, _, [], _, [], hW', trodAll_mk1 (shut_bool Try.underlying4 _), trodAll_below laidOutAll bel _ _ _ _ (by rw [tsOk, Try.params4]; kernel_rfl) hAk, rfl, bel.frame _, fun h => by cases h⟩
theorem fnChains_holds : Rows.FnChainsSaid :=
  OpenClaim.holds_of_wide 4 Try.f4 rfl rfl rfl rfl rfl rfl rfl ⟨rfl, rfl, rfl, rfl, rfl⟩ rfl rfl rfl rfl rfl (by kernel_rfl) Try.func4 (by kernel_rfl)
    (of_decide_eq_true (by kernel_rfl)) (by unfold Func.isWrapper; first | (rw [if_pos (by decide +kernel)]; kernel_rfl) | (rw [if_neg (by decide +kernel)]; exact ⟨rfl, rfl⟩))
    (fun os started H enc _ => fnChains_lifted os started H enc)
end Go.Proofs.Ytppcmnolkbobfaa
