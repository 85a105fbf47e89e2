/- Contracts of IsPanel, in the program and in the reference. Conditions: lengths below 2^40. -/
import Derived.Test.YtppcmnolkbobfaaPanel2
set_option linter.unusedVariables false
set_option linter.unusedSimpArgs false
set_option maxRecDepth 100000
namespace Go.Proofs.Ytppcmnolkbobfaa
open Go.ChangeShapes Go.WideShapes Go.ChangeAt Go.RowKit
def capB (S : List Int) (q : Int) : Bool := S.all fun x => decide (x ≤ q)
def inAllB (E L : List Int) : Bool := L.all fun x => hasB E x
def panB (l : List T3) (cl : List Int) (v q : Int) (L : List Int) : Bool := inB L.length 1 9 && risB L 1 999 && (inAllB (eligL l cl v) L && capB (szL l L) q)
theorem szL_mono (l : List T3) (L : List Int) (k c : Nat) : (szL l (L.take k))[c]?.getD 0 ≤ (szL l L)[c]?.getD 0 := by
  by_cases hc : c < 21
  · rw [szL_get _ _ c hc, szL_get _ _ c hc]
    have := ((List.take_sublist k L).filter (fun x => clubV l x == (c : Nat))).length_le
    omega
  · rw [List.getElem?_eq_none (by rw [szL_len]; omega), List.getElem?_eq_none (by rw [szL_len]; omega)]; exact Int.le_refl _
theorem capB_no {S : List Int} {q : Int} {c : Nat} (hc : c < S.length) (h : q < S[c]?.getD 0) : capB S q = false := all_miss 0 hc (by simpa using h)
theorem capB_yes {S : List Int} {q : Int} (h : ∀ c, c < S.length → S[c]?.getD 0 ≤ q) : capB S q = true := List.all_eq_true.2 fun x hx => by
  obtain ⟨i, hi, rfl⟩ := List.mem_iff_getElem.1 hx
  have := h i hi; simpa [hi] using this
theorem capB_max {S : List Int} {q : Int} (h : 0 < S.length) : capB S q = decide (Lib.maxOf S ≤ q) := by
  obtain ⟨h1, h2⟩ := maxOf_mem h
  rw [Bool.eq_iff_iff]
  simp only [capB, List.all_eq_true, decide_eq_true_eq]
  constructor
  · intro h3; exact h3 _ h1
  · intro h3 x hx; have := h2 x hx; omega
theorem ris_up {L : List Int} {a b c : Int} (h : risB L a c = true) (h2 : ∀ x ∈ L, b ≤ x) : risB L b c = true := List.all_eq_true.2 fun i hi => by
  have hi' : i < L.length := by simpa using hi
  have h3 := risB_at h i hi'
  simp only [risAt, Bool.and_eq_true] at h3 ⊢
  have h4 := inB_iff.1 h3.1
  exact ⟨inB_iff.2 ⟨h2 _ (getD_mem 0 L i hi'), h4.2⟩, h3.2⟩
theorem ris_down {L : List Int} {a b c : Int} (h : risB L b c = true) (hab : a ≤ b) : risB L a c = true := List.all_eq_true.2 fun i hi => by
  have h3 := risB_at h i (by simpa using hi)
  simp only [risAt, Bool.and_eq_true] at h3 ⊢
  have h4 := inB_iff.1 h3.1
  exact ⟨inB_iff.2 (by omega), h3.2⟩
theorem elig_ge {l : List T3} {cl : List Int} {v x : Int} (hof : offsB l = true) (h : x ∈ eligL l cl v) : 1 ≤ x := by
  have h1 := elig_mem h
  obtain ⟨h2, h3⟩ := fI_lt h1
  have := (offs_at hof _ h2).1
  omega
section
variable {l : List T3} {cl : List Int} {v q : Int} {L : List Int}
theorem pan_no1 {k u : Nat} (hl : L.length = u) (hk : k < u) (h : hasB (eligL l cl v) (L[k]?.getD 0) = false) : false = panB l cl v q L := by
  have : inAllB (eligL l cl v) L = false := all_miss 0 (k := k) (by omega) h
  simp [panB, this]
theorem pan_no2 {k cn : Nat} (hc : cn < 21) (h : q < (szL l (L.take (k + 1)))[cn]?.getD 0) : false = panB l cl v q L := by
  have := szL_mono l L (k + 1) cn
  have := capB_no (S := szL l L) (q := q) (c := cn) (by rw [szL_len]; exact hc) (by omega)
  simp [panB, this]
theorem pan_end {u : Nat} (hl : L.length = u) (h1 : inAllB (eligL l cl v) L = true) (h2 : capB (szL l L) q = true) : panB l cl v q L = (inB u 1 9 && risB L 1 999) := by
  simp [panB, h1, h2, hl]
end
set_option maxHeartbeats 2000000 in
theorem paIs_any (w : World) (A : Option Addr) (n c : Nat) (l : List T3) (B : Option Addr) (m d : Nat) (cl : List Int) (ha : Rd3 w A n l) (hb : RdI w B m cl) (hn : n ≤ 1099511627776) (hm : m ≤ 1099511627776) (C : Option Addr) (u f : Nat) (L : List Int) (hp : RdI w C u L) (hu : u ≤ 1099511627776) (v q : Int) (hof : offsB l = true) (hq1 : 1 ≤ q) (hq9 : q ≤ 9) :
    Calls Try.prog 145 #[.slice A n c, .slice B m d, .int .i64 v, .int .i64 q, .slice C u f] w fun e w' => e = .returned (.bool (panB l cl v q L)) ∧ ∃ x, w' = ext w x := by
  have h24 := off24 ha.len hof
  have hel := eligL_len l cl v
  rw [ha.len] at hel
  have Hu := Lib.hid hp.len
  obtain ⟨i0, hi0, hz0, hz1, hz2⟩ := info_parts int_info
  go_enter Try.func145, Try.ntmps145
  go_wp2_with (first | (go_at_call 144; ((with_reducible refine (paEligible_any _ _ _ _ _ _ _ _ _ ha hb hn hm _ hof h24).mono ?_); rintro e w' ⟨A1, n1, c1, x1, rfl, rfl, o1⟩)) | (at_make; refine wpList_make_full (ext w x1) rfl _ _ _ rfl (ext w x1).heap.size 3 i0 _ 1 Try.underlying23 hi0 hz0 hz1 .i64 .i64 _ _ 21 rfl rfl rfl rfl (by rw [hz2]; omega) (by simp only [maxLen]; omega) (Nat.le_refl _) ?_; intro w1 hown1 hg1; (have hb1 : Below (ext w x1).heap.size (ext w x1) w1 := below_grown (Below.refl _ _) hg1 (by simp)); (rw [ints_made21] at hown1); (obtain ⟨x2, rfl⟩ := ext_ex hb1)))
  have oc : OwI (ext w x1).heap.size (ext (ext w x1) x2) (some ⟨(ext w x1).heap.size, 0, none⟩) 21 21 (szL l (L.take 0)) := by
    rw [List.take_zero, szL_nil]; exact hown1
  clear hown1 hg1
  have hn1 : n1 ≤ 24 := by have := o1.len; omega
  have hrE := o1.rd
  have hle := ext_le w x1
  go_loopw [23] (fun i wr => ∃ (k : Nat) (y : World), k ≤ u ∧ i = .int .i64 k ∧ wr = ext (ext w x1) y ∧ OwI (ext w x1).heap.size (ext (ext w x1) y) (some ⟨(ext w x1).heap.size, 0, none⟩) 21 21 (szL l (L.take k)) ∧ Hid (∀ j : Nat, j < 21 → (szL l (L.take k))[j]?.getD 0 ≤ q) ∧ Hid (inAllB (eligL l cl v) (L.take k) = true)) (fun i _ => u - (intOf i).toNat)
  case atStart => exact ⟨0, x2, by omega, rfl, rfl, oc, fun j hj => by have := szL_bd l [] j; rw [List.take_zero]; simp only [List.length_nil] at this; omega, rfl⟩
  case round =>
    obtain ⟨k, y, hk, rfl, rfl, oC, HQ, HA⟩ := hrel
    by_cases hlt : k < u
    · obtain ⟨bp, op, rfl, hbp, hcp⟩ := hp.open_ (by omega)
      have hck := hcp k hlt
      rw [List.getD_eq_getElem?_getD] at hck
      clear hcp
      have HT := Lib.hid (take_step1 L k (by rw [Hu.out]; exact hlt))
      have HN1 := Lib.hid (fun h => pan_no1 (l := l) (cl := cl) (v := v) (q := q) Hu.out hlt h)
      have HAS := Lib.hid (fun h => all_step (P := fun x => hasB (eligL l cl v) x) 0 (by rw [Hu.out]; exact hlt) HA.out h)
      obtain ⟨qn, hqn⟩ : ∃ qn, L[k]?.getD 0 = qn := ⟨_, rfl⟩
      unfold Hid at HT HN1 HAS
      rw [hqn] at hck HT
      simp only [hqn] at HN1 HAS
      replace HT := Lib.hid HT
      replace HN1 := Lib.hid HN1
      replace HAS := Lib.hid HAS
      clear hqn
      cases hh : hasB (eligL l cl v) qn
      · have HR := Lib.hid (HN1.out hh)
        go_wp2_with (first | (go_at_call 180; ((with_reducible refine (l1Has_any _ _ _ _ _ _ (hrE.below (by repeat (first | exact Below.refl _ _ | assumption | refine bExt ?_ _ | refine bAlloc ?_ _ | refine bDrewN ?_ _ | refine bDrew ?_ | refine bSet ?_ (by first | exact Nat.le_refl _ | omega | (simp; done) | (simp; omega)) _))) (by omega)).mono ?_); rintro e w' ⟨rfl, rfl⟩)))
        go_ret
        exact ⟨ret_bool HR.out, ext_ex (by repeat (first | exact Below.refl _ _ | assumption | refine bExt ?_ _ | refine bAlloc ?_ _ | refine bDrewN ?_ _ | refine bDrew ?_ | refine bSet ?_ (by first | exact Nat.le_refl _ | omega | (simp; done) | (simp; omega)) _))⟩
      · have hmem := elig_mem (hasB_iff.1 hh)
        have HAk := Lib.hid (HAS.out hh)
        obtain ⟨hcv, hfv⟩ := clubV_find hmem
        have hfl := (fI_lt hmem).1
        obtain ⟨fi, hfi⟩ : ∃ fi, (fI l qn).1 = fi := ⟨_, rfl⟩
        rw [hfi] at hcv hfv hfl
        clear hfi hmem
        rw [ha.len] at hfl
        have hbd := clubV_bd hof qn
        obtain ⟨b, off, rfl, hb0, hd0, hd1, hd2⟩ := ha.at_ fi hfl
        rw [← hcv] at hd1
        clear hcv
        obtain ⟨cn, hcn⟩ : ∃ cn : Nat, clubV l qn = cn := ⟨(clubV l qn).toNat, by omega⟩
        rw [hcn] at hd1 hbd
        have hc21 : cn < 21 := by omega
        have HF := Lib.hid (szL_step (L := L.take k) hcn hc21)
        have hsz := szL_bd l (L.take k) cn
        have hszq := HQ.out cn hc21
        have cq := paFind_any (ext (ext w x1) y) (some ⟨b, off, none⟩) n c l qn (ha.below (by repeat (first | exact Below.refl _ _ | assumption | refine bExt ?_ _ | refine bAlloc ?_ _ | refine bDrewN ?_ _ | refine bDrew ?_ | refine bSet ?_ (by first | exact Nat.le_refl _ | omega | (simp; done) | (simp; omega)) _))) hn
        rw [hfv] at cq
        clear hcn hfv
        have hcI : (cn : Int) < 21 := by omega
        have hfI : (fi : Int) < n := by omega
        obtain ⟨sz, hsze⟩ : ∃ sz, (szL l (L.take k))[cn]?.getD 0 = sz := ⟨_, rfl⟩
        unfold Hid at HF
        rw [hsze] at HF hsz hszq
        replace HF := Lib.hid HF
        have HZ := Lib.hid hsze
        clear hsze
        have HG := Lib.hid (show (szL l (L.take (k + 1)))[cn]?.getD 0 = sz + 1 by rw [HT.out, ← HF.out, List.getElem?_set_self (by rw [szL_len]; exact hc21)]; rfl)
        have HO := Lib.hid (show ∀ j : Nat, j ≠ cn → (szL l (L.take (k + 1)))[j]?.getD 0 = (szL l (L.take k))[j]?.getD 0 from fun j hj => by rw [HT.out, ← HF.out, List.getElem?_set_ne (fun h => hj h.symm)])
        by_cases hover : q < sz + 1
        · have HR := Lib.hid (pan_no2 (l := l) (cl := cl) (v := v) (q := q) (L := L) (k := k) hc21 (by rw [HG.out]; exact hover))
          go_wp2_with (first | (go_at_call 180; ((with_reducible refine (l1Has_any _ _ _ _ _ _ (hrE.below (by repeat (first | exact Below.refl _ _ | assumption | refine bExt ?_ _ | refine bAlloc ?_ _ | refine bDrewN ?_ _ | refine bDrew ?_ | refine bSet ?_ (by first | exact Nat.le_refl _ | omega | (simp; done) | (simp; omega)) _))) (by omega)).mono ?_); rintro e w' ⟨rfl, rfl⟩)) | (go_at_call 184; ((with_reducible refine (cq).mono ?_); rintro e w' ⟨rfl, y2, rfl⟩; (have ho2 := oC.below (ext_below _ y2)); (have hcc := ho2.cell_ cn hc21); (rw [HZ.out] at hcc); (have hff := ho2.frozen_ cn); (have hst := ho2.stored_ cn (sz + 1)); (have hcs := hst.1.cell_ cn hc21); (rw [List.getElem?_set_self (by rw [szL_len]; exact hc21)] at hcs); (simp only [Option.getD_some] at hcs))))
          go_ret
          exact ⟨ret_bool HR.out, ext_ex (by repeat (first | exact Below.refl _ _ | assumption | refine bExt ?_ _ | refine bAlloc ?_ _ | refine bDrewN ?_ _ | refine bDrew ?_ | refine bSet ?_ (by first | exact Nat.le_refl _ | omega | (simp; done) | (simp; omega)) _))⟩
        · go_wp2_with (first | (go_at_call 180; ((with_reducible refine (l1Has_any _ _ _ _ _ _ (hrE.below (by repeat (first | exact Below.refl _ _ | assumption | refine bExt ?_ _ | refine bAlloc ?_ _ | refine bDrewN ?_ _ | refine bDrew ?_ | refine bSet ?_ (by first | exact Nat.le_refl _ | omega | (simp; done) | (simp; omega)) _))) (by omega)).mono ?_); rintro e w' ⟨rfl, rfl⟩)) | (go_at_call 184; ((with_reducible refine (cq).mono ?_); rintro e w' ⟨rfl, y2, rfl⟩; (have ho2 := oC.below (ext_below _ y2)); (have hcc := ho2.cell_ cn hc21); (rw [HZ.out] at hcc); (have hff := ho2.frozen_ cn); (have hst := ho2.stored_ cn (sz + 1)); (have hcs := hst.1.cell_ cn hc21); (rw [List.getElem?_set_self (by rw [szL_len]; exact hc21)] at hcs); (simp only [Option.getD_some] at hcs))))
          rw [HF.out, ← HT.out] at hst
          have hbn : Below (ext w x1).heap.size (ext w x1) ((ext (ext (ext w x1) y) y2).setCell ⟨(ext w x1).heap.size, cn, none⟩ (.int .i64 (sz + 1))) := by repeat (first | exact Below.refl _ _ | assumption | refine bExt ?_ _ | refine bAlloc ?_ _ | refine bDrewN ?_ _ | refine bDrew ?_ | refine bSet ?_ (by first | exact Nat.le_refl _ | omega | (simp; done) | (simp; omega)) _)
          obtain ⟨z, hz⟩ := ext_ex hbn
          rw [hz] at hst
          go_roundw
          case rel => exact ⟨k + 1, z, by omega, by go_num, hz, hst.1, fun j hj => by
            by_cases e : j = cn
            · subst e; rw [HG.out]; omega
            · rw [HO.out j e]; exact HQ.out j hj, HAk⟩
          case measure => simp [intOf]; omega
    · have HAll := Lib.hid (show inAllB (eligL l cl v) L = true from all_end HA.out (by rw [Hu.out]; omega))
      have HT2 : L.take k = L := List.take_of_length_le (by rw [Hu.out]; omega)
      have HCap := Lib.hid (show capB (szL l L) q = true from capB_yes (fun j hj => by have := HQ.out j (by rw [szL_len] at hj; exact hj); rw [HT2] at this; exact this))
      have Hfin := Lib.hid (pan_end (l := l) (cl := cl) (v := v) (q := q) Hu.out HAll.out HCap.out)
      clear HT2
      cases h9 : inB u 1 9
      · rw [h9] at Hfin
        go_wp2_with (first | (go_at_call 98; ((with_reducible refine (l1In_any _ _ _ _).mono ?_); rintro e w' ⟨rfl, rfl⟩)) | (go_at_call 182; ((with_reducible refine (l1Rising_any _ _ _ _ _ _ _ (hp.below (by repeat (first | exact Below.refl _ _ | assumption | refine bExt ?_ _ | refine bAlloc ?_ _ | refine bDrewN ?_ _ | refine bDrew ?_ | refine bSet ?_ (by first | exact Nat.le_refl _ | omega | (simp; done) | (simp; omega)) _))) hu).mono ?_); rintro e w' ⟨rfl, rfl⟩)))
        go_ret
        exact ⟨ret_bool Hfin.out.symm, ext_ex (by repeat (first | exact Below.refl _ _ | assumption | refine bExt ?_ _ | refine bAlloc ?_ _ | refine bDrewN ?_ _ | refine bDrew ?_ | refine bSet ?_ (by first | exact Nat.le_refl _ | omega | (simp; done) | (simp; omega)) _))⟩
      · rw [h9] at Hfin
        go_wp2_with (first | (go_at_call 98; ((with_reducible refine (l1In_any _ _ _ _).mono ?_); rintro e w' ⟨rfl, rfl⟩)) | (go_at_call 182; ((with_reducible refine (l1Rising_any _ _ _ _ _ _ _ (hp.below (by repeat (first | exact Below.refl _ _ | assumption | refine bExt ?_ _ | refine bAlloc ?_ _ | refine bDrewN ?_ _ | refine bDrew ?_ | refine bSet ?_ (by first | exact Nat.le_refl _ | omega | (simp; done) | (simp; omega)) _))) hu).mono ?_); rintro e w' ⟨rfl, rfl⟩)))
        go_ret
        exact ⟨ret_bool (by rw [Hfin.out]; rfl), ext_ex (by repeat (first | exact Below.refl _ _ | assumption | refine bExt ?_ _ | refine bAlloc ?_ _ | refine bDrewN ?_ _ | refine bDrew ?_ | refine bSet ?_ (by first | exact Nat.le_refl _ | omega | (simp; done) | (simp; omega)) _))⟩
def ipV (l : List T3) (cl : List Int) (v q : Int) (L : List Int) : Bool := canB l cl v q && panB l cl v q L
end Go.Proofs.Ytppcmnolkbobfaa
