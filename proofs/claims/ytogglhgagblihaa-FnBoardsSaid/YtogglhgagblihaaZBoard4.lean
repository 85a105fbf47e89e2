/- BoardAt of the program and of the reference. Conditions: lengths below 2^40. -/
import Derived.Test.YtogglhgagblihaaZBoard3
import Derived.Test.YtogglhgagblihaaZPlains
set_option linter.unusedVariables false
set_option linter.unusedSimpArgs false
set_option maxRecDepth 100000
namespace Go.Proofs.Ytogglhgagblihaa
open Go.RowKit
def scB (l : List (Int × Int)) (a b c gap : Int) (S : List Int) : Bool := timedB l a b c gap && (decide (S.length = l.length) && allB S 0 100000)
theorem scB_of {l : List (Int × Int)} {a b c gap : Int} {S : List Int} (h : scB l a b c gap S = true) : timedB l a b c gap = true ∧ S.length = l.length ∧ ∀ j : Nat, 0 ≤ S[j]?.getD 0 ∧ S[j]?.getD 0 ≤ 100000 := by
  simp only [scB, Bool.and_eq_true, decide_eq_true_iff] at h
  refine ⟨h.1, h.2.1, fun j => ?_⟩
  by_cases hj : j < S.length
  · exact inB_iff.1 (List.all_eq_true.1 h.2.2 _ (getD_mem 0 S j hj))
  · rw [List.getElem?_eq_none (by omega)]; simp
set_option maxHeartbeats 400000 in
theorem srAsked_any (w : World) (L : Option Addr) (n cl : Nat) (l : List (Int × Int)) (a b c gap : Int) (A : Option Addr) (m cs : Nat) (S : List Int) (hl : RdS w L n l) (hn : n ≤ 1099511627776) (hr : RdI w A m S) (hm : m ≤ 1099511627776) :
    Calls Try.prog 85 #[.slice L n cl, .agg #[.int .i64 a, .int .i64 b, .int .i64 c, .int .i64 gap], .slice A m cs] w fun e w' => e = .returned (.bool (scB l a b c gap S)) ∧ ∃ x, w' = ext w x := by
  have cG := fun w' h => tiGood_any w' L n cl l a b c gap h hn
  have Hl := Lib.hid hl.len
  have Hr := Lib.hid hr.len
  cases ht : timedB l a b c gap
  · rw [ht] at cG
    go_enter Try.func85, Try.ntmps85
    go_wp2_with (first | (go_at_call 63; ((with_reducible refine (cG _ (hl.below (by repeat (first | exact Below.refl _ _ | assumption | refine bExt ?_ _ | refine bAlloc ?_ _ | refine bDrewN ?_ _ | refine bDrew ?_ | refine bSet ?_ (by first | exact Nat.le_refl _ | omega | (simp; done) | (simp; omega)) _)))).mono ?_); rintro e w' ⟨rfl, x, rfl⟩)))
    go_ret
    exact ⟨ret_bool (by rw [scB, ht]; rfl), ext_ex (by repeat (first | exact Below.refl _ _ | assumption | refine bExt ?_ _ | refine bAlloc ?_ _ | refine bDrewN ?_ _ | refine bDrew ?_ | refine bSet ?_ (by first | exact Nat.le_refl _ | omega | (simp; done) | (simp; omega)) _))⟩
  · rw [ht] at cG
    by_cases hmn : m = n
    · subst hmn
      have cA := fun w' h => l1All_any w' A m cs S 0 100000 h hm
      go_enter Try.func85, Try.ntmps85
      go_wp2_with (first | (go_at_call 63; ((with_reducible refine (cG _ (hl.below (by repeat (first | exact Below.refl _ _ | assumption | refine bExt ?_ _ | refine bAlloc ?_ _ | refine bDrewN ?_ _ | refine bDrew ?_ | refine bSet ?_ (by first | exact Nat.le_refl _ | omega | (simp; done) | (simp; omega)) _)))).mono ?_); rintro e w' ⟨rfl, x, rfl⟩)) | (go_at_call 125; ((with_reducible refine (cA _ (hr.below (by repeat (first | exact Below.refl _ _ | assumption | refine bExt ?_ _ | refine bAlloc ?_ _ | refine bDrewN ?_ _ | refine bDrew ?_ | refine bSet ?_ (by first | exact Nat.le_refl _ | omega | (simp; done) | (simp; omega)) _)))).mono ?_); rintro e w' ⟨rfl, rfl⟩)))
      go_ret
      exact ⟨ret_bool (by rw [scB, ht, Hl.out, Hr.out]; simp), ext_ex (by repeat (first | exact Below.refl _ _ | assumption | refine bExt ?_ _ | refine bAlloc ?_ _ | refine bDrewN ?_ _ | refine bDrew ?_ | refine bSet ?_ (by first | exact Nat.le_refl _ | omega | (simp; done) | (simp; omega)) _))⟩
    · have hne : ((m : Int) == n) = false := by simpa using (by omega : ¬ (m : Int) = n)
      have HV := Lib.hid (show scB l a b c gap S = false by rw [scB, Hl.out, Hr.out, ht]; simp [hmn])
      clear hmn
      go_enter Try.func85, Try.ntmps85
      go_wp2_with (first | (go_at_call 63; ((with_reducible refine (cG _ (hl.below (by repeat (first | exact Below.refl _ _ | assumption | refine bExt ?_ _ | refine bAlloc ?_ _ | refine bDrewN ?_ _ | refine bDrew ?_ | refine bSet ?_ (by first | exact Nat.le_refl _ | omega | (simp; done) | (simp; omega)) _)))).mono ?_); rintro e w' ⟨rfl, x, rfl⟩)))
      go_ret
      exact ⟨ret_bool (by rw [HV.out]), ext_ex (by repeat (first | exact Below.refl _ _ | assumption | refine bExt ?_ _ | refine bAlloc ?_ _ | refine bDrewN ?_ _ | refine bDrew ?_ | refine bSet ?_ (by first | exact Nat.le_refl _ | omega | (simp; done) | (simp; omega)) _))⟩
set_option maxHeartbeats 400000 in
theorem areScored_any (w : World) (L : Option Addr) (n cl : Nat) (l : List (Int × Int)) (a b c gap : Int) (A : Option Addr) (m cs : Nat) (S : List Int) (hl : RdS w L n l) (hn : n ≤ 1099511627776) (hr : RdI w A m S) (hm : m ≤ 1099511627776) (hnc : n ≤ cl) :
    Calls Try.prog 83 #[.slice L n cl, .agg #[.int .i64 a, .int .i64 b, .int .i64 c, .int .i64 gap], .slice A m cs] w fun e w' => e = .returned (.bool (scB l a b c gap S)) ∧ ∃ x, w' = ext w x := by
  have cG := fun w' h => areTimed_any w' L n cl l a b c gap h hn hnc
  have Hl := Lib.hid hl.len
  have Hr := Lib.hid hr.len
  cases ht : timedB l a b c gap
  · rw [ht] at cG
    go_enter Try.func83, Try.ntmps83
    go_wp2_with (first | (go_at_call 61; ((with_reducible refine (cG _ (hl.below (by repeat (first | exact Below.refl _ _ | assumption | refine bExt ?_ _ | refine bAlloc ?_ _ | refine bDrewN ?_ _ | refine bDrew ?_ | refine bSet ?_ (by first | exact Nat.le_refl _ | omega | (simp; done) | (simp; omega)) _)))).mono ?_); rintro e w' ⟨rfl, x, rfl⟩)))
    go_ret
    exact ⟨ret_bool (by rw [scB, ht]; rfl), ext_ex (by repeat (first | exact Below.refl _ _ | assumption | refine bExt ?_ _ | refine bAlloc ?_ _ | refine bDrewN ?_ _ | refine bDrew ?_ | refine bSet ?_ (by first | exact Nat.le_refl _ | omega | (simp; done) | (simp; omega)) _))⟩
  · rw [ht] at cG
    by_cases hmn : m = n
    · subst hmn
      have cA := fun w' h => allWithin_any w' A m cs S 0 100000 h hm
      go_enter Try.func83, Try.ntmps83
      go_wp2_with (first | (go_at_call 61; ((with_reducible refine (cG _ (hl.below (by repeat (first | exact Below.refl _ _ | assumption | refine bExt ?_ _ | refine bAlloc ?_ _ | refine bDrewN ?_ _ | refine bDrew ?_ | refine bSet ?_ (by first | exact Nat.le_refl _ | omega | (simp; done) | (simp; omega)) _)))).mono ?_); rintro e w' ⟨rfl, x, rfl⟩)) | (go_at_call 122; ((with_reducible refine (cA _ (hr.below (by repeat (first | exact Below.refl _ _ | assumption | refine bExt ?_ _ | refine bAlloc ?_ _ | refine bDrewN ?_ _ | refine bDrew ?_ | refine bSet ?_ (by first | exact Nat.le_refl _ | omega | (simp; done) | (simp; omega)) _)))).mono ?_); rintro e w' ⟨rfl, rfl⟩)))
      go_ret
      exact ⟨ret_bool (by rw [scB, ht, Hl.out, Hr.out]; simp), ext_ex (by repeat (first | exact Below.refl _ _ | assumption | refine bExt ?_ _ | refine bAlloc ?_ _ | refine bDrewN ?_ _ | refine bDrew ?_ | refine bSet ?_ (by first | exact Nat.le_refl _ | omega | (simp; done) | (simp; omega)) _))⟩
    · have hne : ((m : Int) == n) = false := by simpa using (by omega : ¬ (m : Int) = n)
      have HV := Lib.hid (show scB l a b c gap S = false by rw [scB, Hl.out, Hr.out, ht]; simp [hmn])
      clear hmn
      go_enter Try.func83, Try.ntmps83
      go_wp2_with (first | (go_at_call 61; ((with_reducible refine (cG _ (hl.below (by repeat (first | exact Below.refl _ _ | assumption | refine bExt ?_ _ | refine bAlloc ?_ _ | refine bDrewN ?_ _ | refine bDrew ?_ | refine bSet ?_ (by first | exact Nat.le_refl _ | omega | (simp; done) | (simp; omega)) _)))).mono ?_); rintro e w' ⟨rfl, x, rfl⟩)))
      go_ret
      exact ⟨ret_bool (by rw [HV.out]), ext_ex (by repeat (first | exact Below.refl _ _ | assumption | refine bExt ?_ _ | refine bAlloc ?_ _ | refine bDrewN ?_ _ | refine bDrew ?_ | refine bSet ?_ (by first | exact Nat.le_refl _ | omega | (simp; done) | (simp; omega)) _))⟩
/-- The board: the known slots, the greatest scores first. -/
def bdT (l : List (Int × Int)) (a b c gap : Int) (S : List Int) (t : Int) : List Int := stS (bKey S) (pickI (knAt l (runS l a b c gap 0 0) gap t) l.length)
theorem bdT_mem {l : List (Int × Int)} {a b c gap t : Int} {S : List Int} {n : Nat} (hl : l.length = n) {x : Int} (h : x ∈ bdT l a b c gap S t) : ∃ i : Nat, i < n ∧ x = i := by
  subst hl; exact pickI_mem x (stS_mem h)
theorem bdT_len (l : List (Int × Int)) (a b c gap : Int) (S : List Int) (t : Int) : (bdT l a b c gap S t).length ≤ l.length := by
  unfold bdT; rw [stS_len]; exact pickI_len _ _
theorem RetBd.to {w : World} {l : List (Int × Int)} {a b c gap t : Int} {S : List Int} {n : Nat} (hl : l.length = n) {e : Ending} {w' : World} (h : RetBd w S (pickI (knAt l (runS l a b c gap 0 0) gap t) n) e w') : RetI w (bdT l a b c gap S t) e w' := by
  obtain ⟨T, h1, h2, h3⟩ := h
  subst hl
  rw [stS_eq h1 h2] at h3
  exact h3
def skL (l : List (Int × Int)) (T : List Int) (k : Nat) : List Int := (T.take k).map fun i => (l[i.toNat]?.getD (0, 0)).1
def knS (S : List Int) (T : List Int) (k : Nat) : List Int := (T.take k).map fun i => S[i.toNat]?.getD 0
theorem skL_succ {l : List (Int × Int)} {T : List Int} {k i : Nat} (h : k < T.length) (e : T[k]?.getD 0 = i) : skL l T (k + 1) = skL l T k ++ [(l[i]?.getD (0, 0)).1] := by
  rw [skL, take_succ_getD 0 T k h, e]; simp [skL]
theorem knS_succ {S : List Int} {T : List Int} {k i : Nat} (h : k < T.length) (e : T[k]?.getD 0 = i) : knS S T (k + 1) = knS S T k ++ [S[i]?.getD 0] := by
  rw [knS, take_succ_getD 0 T k h, e]; simp [knS]
def boB (l : List (Int × Int)) (a b c gap : Int) (S : List Int) (t : Int) : Bool := scB l a b c gap S && inB t 0 200000
def boS (l : List (Int × Int)) (a b c gap : Int) (S : List Int) (t : Int) : List Int := if boB l a b c gap S t then skL l (bdT l a b c gap S t) (bdT l a b c gap S t).length else []
def boK (l : List (Int × Int)) (a b c gap : Int) (S : List Int) (t : Int) : List Int := if boB l a b c gap S t then knS S (bdT l a b c gap S t) (bdT l a b c gap S t).length else []
theorem boS_len (l : List (Int × Int)) (a b c gap : Int) (S : List Int) (t : Int) : (boS l a b c gap S t).length ≤ l.length := by
  unfold boS; split
  · have := bdT_len l a b c gap S t; simp [skL]; omega
  · simp
theorem boK_len (l : List (Int × Int)) (a b c gap : Int) (S : List Int) (t : Int) : (boK l a b c gap S t).length ≤ l.length := by
  unfold boK; split
  · have := bdT_len l a b c gap S t; simp [knS]; omega
  · simp
def RetIIB (w : World) (r s : List Int) (ok : Bool) (e : Ending) (w' : World) : Prop := ∃ A n c B m d x, e = .returned (.tuple #[.slice A n c, .slice B m d, .bool ok]) ∧ w' = ext w x ∧ OwI w.heap.size (ext w x) A n c r ∧ OwI w.heap.size (ext w x) B m d s ∧ (blkOf A = none ∨ blkOf A ≠ blkOf B) ∧ (blkOf B = none ∨ blkOf B ≠ blkOf A)
theorem RetIIB.mk_ {w W : World} {base : Nat} {A B : Option Addr} {n c m d : Nat} {r s : List Int} {ok : Bool} (ho : OwI base W A n c r) (ho2 : OwI base W B m d s) (hd : Dj A B) (hbase : w.heap.size ≤ base) (hb : Below w.heap.size w W) : RetIIB w r s ok (.returned (.tuple #[.slice A n c, .slice B m d, .bool ok])) W := by
  obtain ⟨x, rfl⟩ := ext_ex hb
  exact ⟨A, n, c, B, m, d, x, rfl, rfl, ho.mono hbase, ho2.mono hbase, hd.ne, hd.symm.ne⟩
set_option maxHeartbeats 2000000 in
theorem specBoardAt_any (w : World) (L : Option Addr) (n cl : Nat) (l : List (Int × Int)) (a b c gap t : Int) (A : Option Addr) (m cs : Nat) (S : List Int) (hl : RdS w L n l) (hn : n ≤ 1099511627776) (hr : RdI w A m S) (hm : m ≤ 1099511627776) :
    Calls Try.prog 28 #[.slice L n cl, .agg #[.int .i64 a, .int .i64 b, .int .i64 c, .int .i64 gap], .slice A m cs, .int .i64 t] w (RetIIB w (boS l a b c gap S t) (boK l a b c gap S t) (boB l a b c gap S t)) := by
  have Hl := Lib.hid hl.len
  have cA := fun w' h1 h2 => srAsked_any w' L n cl l a b c gap A m cs S h1 hn h2 hm
  cases hk : boB l a b c gap S t
  · have hv : boS l a b c gap S t = [] := by simp [boS, hk]
    have hv2 : boK l a b c gap S t = [] := by simp [boK, hk]
    rw [hv, hv2]
    unfold boB at hk
    go_enter Try.func28, Try.ntmps28
    go_wp2_with (first | (go_at_call 85; ((with_reducible refine (cA _ (hl.below (by repeat (first | exact Below.refl _ _ | assumption | refine bExt ?_ _ | refine bAlloc ?_ _ | refine bDrewN ?_ _ | refine bDrew ?_ | refine bSet ?_ (by first | exact Nat.le_refl _ | omega | (simp; done) | (simp; omega)) _))) (hr.below (by repeat (first | exact Below.refl _ _ | assumption | refine bExt ?_ _ | refine bAlloc ?_ _ | refine bDrewN ?_ _ | refine bDrew ?_ | refine bSet ?_ (by first | exact Nat.le_refl _ | omega | (simp; done) | (simp; omega)) _)))).mono ?_); rintro e w' ⟨rfl, x, rfl⟩)) | (go_at_call 70; ((with_reducible refine (tiClock_any _ _).mono ?_); rintro e w' ⟨rfl, rfl⟩)))
    all_goals first | (go_ret3; exact RetIIB.mk_ OwI.nil_ OwI.nil_ Dj.nil_ (Nat.le_refl _) (by repeat (first | exact Below.refl _ _ | assumption | refine bExt ?_ _ | refine bAlloc ?_ _ | refine bDrewN ?_ _ | refine bDrew ?_ | refine bSet ?_ (by first | exact Nat.le_refl _ | omega | (simp; done) | (simp; omega)) _))) | (exfalso; simp_all)
  · have hv : boS l a b c gap S t = skL l (bdT l a b c gap S t) (bdT l a b c gap S t).length := by simp [boS, hk]
    have hv2 : boK l a b c gap S t = knS S (bdT l a b c gap S t) (bdT l a b c gap S t).length := by simp [boK, hk]
    rw [hv, hv2]
    clear hv hv2
    simp only [boB, Bool.and_eq_true] at hk
    obtain ⟨hsc, htt⟩ := hk
    obtain ⟨ht, hSl, hSb⟩ := scB_of hsc
    have hmn : m = n := by rw [← hr.len, hSl, hl.len]
    subst hmn
    rw [hsc] at cA
    have hm40 := (timed_facts hl.len ht).2.2.1
    have cB := fun w' h1 h2 => (srBoard_any w' L m cl l a b c gap t A cs S h1 hn ht h2 hSb).mono fun e w'' h => RetBd.to hl.len h
    have HTm := Lib.hid (fun x => bdT_mem (a := a) (b := b) (c := c) (gap := gap) (t := t) (S := S) hl.len (x := x))
    have hTle := bdT_len l a b c gap S t
    rw [hl.len] at hTle
    clear hSl hsc ht Hl hSb
    generalize bdT l a b c gap S t = T at *
    go_enter Try.func28, Try.ntmps28
    go_wp2_with (first | (go_at_call 85; ((with_reducible refine (cA _ (hl.below (by repeat (first | exact Below.refl _ _ | assumption | refine bExt ?_ _ | refine bAlloc ?_ _ | refine bDrewN ?_ _ | refine bDrew ?_ | refine bSet ?_ (by first | exact Nat.le_refl _ | omega | (simp; done) | (simp; omega)) _))) (hr.below (by repeat (first | exact Below.refl _ _ | assumption | refine bExt ?_ _ | refine bAlloc ?_ _ | refine bDrewN ?_ _ | refine bDrew ?_ | refine bSet ?_ (by first | exact Nat.le_refl _ | omega | (simp; done) | (simp; omega)) _)))).mono ?_); rintro e w' ⟨rfl, x, rfl⟩)) | (go_at_call 70; ((with_reducible refine (tiClock_any _ _).mono ?_); rintro e w' ⟨rfl, rfl⟩)) | (go_at_call 86; ((with_reducible refine (cB _ (hl.below (by repeat (first | exact Below.refl _ _ | assumption | refine bExt ?_ _ | refine bAlloc ?_ _ | refine bDrewN ?_ _ | refine bDrew ?_ | refine bSet ?_ (by first | exact Nat.le_refl _ | omega | (simp; done) | (simp; omega)) _))) (hr.below (by repeat (first | exact Below.refl _ _ | assumption | refine bExt ?_ _ | refine bAlloc ?_ _ | refine bDrewN ?_ _ | refine bDrew ?_ | refine bSet ?_ (by first | exact Nat.le_refl _ | omega | (simp; done) | (simp; omega)) _)))).mono ?_); rintro e w' ⟨A1, n1, c1, x1, rfl, rfl, o1⟩)))
    have HTl := Lib.hid o1.len
    have hBR : Below w.heap.size w (ext (w.alloc (.cells #[.int .i64 a, .int .i64 b, .int .i64 c, .int .i64 gap] 25)) x) := by repeat (first | exact Below.refl _ _ | assumption | refine bExt ?_ _ | refine bAlloc ?_ _ | refine bDrewN ?_ _ | refine bDrew ?_ | refine bSet ?_ (by first | exact Nat.le_refl _ | omega | (simp; done) | (simp; omega)) _)
    have HBR := Lib.hid hBR
    have hlR := hl.below hBR
    have hrR := hr.below hBR
    have oT0 := o1.mono (Nat.le_refl _)
    clear o1 hBR cA cB
    generalize (ext (w.alloc (.cells #[.int .i64 a, .int .i64 b, .int .i64 c, .int .i64 gap] 25)) x) = R at *
    go_loopw [11, 12, 31] (fun u v i wr => ∃ (k : Nat) (D : Option Addr) (q : Nat) (E : Option Addr) (p : Nat) (y : World), k ≤ n1 ∧ i = .int .i64 k ∧ u = .slice D k q ∧ v = .slice E k p ∧ wr = ext R y ∧ OwI R.heap.size (ext R y) D k q (skL l T k) ∧ OwI R.heap.size (ext R y) E k p (knS S T k) ∧ OwI R.heap.size (ext R y) A1 n1 c1 T ∧ Dj D E ∧ Dj D A1 ∧ Dj E A1) (fun _ _ i _ => n1 - (intOf i).toNat)
    case atStart => exact ⟨0, none, 0, none, 0, x1, by omega, rfl, rfl, rfl, rfl, OwI.nil_, OwI.nil_, oT0, Dj.nil_, Dj.nil_, Dj.nil_⟩
    case round =>
      obtain ⟨k, D, q, E, p, y, hk, rfl, rfl, rfl, rfl, oD, oE, oT, hdj, hdDT, hdET⟩ := hrel
      by_cases hlt : k < n1
      · obtain ⟨g, rfl, hg1, hg2⟩ := oT.form_ (by omega)
        have hck := oT.cell_ k hlt
        obtain ⟨i, hi, hie⟩ := HTm.out _ (getD_mem 0 T k (by rw [HTl.out]; exact hlt))
        have HS1 := Lib.hid (skL_succ (l := l) (by rw [HTl.out]; exact hlt) hie)
        have HS2 := Lib.hid (knS_succ (S := S) (by rw [HTl.out]; exact hlt) hie)
        rw [hie] at hck
        clear hie
        obtain ⟨b2, o2, rfl, hb2, hm0, hm1⟩ := hlR.at_ i hi
        obtain ⟨b3, o3, rfl, hb3, hc3⟩ := hrR.open_ (by omega)
        have hci := hc3 i hi
        rw [List.getD_eq_getElem?_getD] at hci
        clear hc3
        have hiI : (i : Int) < m := by omega
        have hkb : k ≤ 1099511627776 := by have := HTl.out; omega
        generalize (l[i]?.getD (0, 0)).1 = v1 at *
        generalize (l[i]?.getD (0, 0)).2 = v9 at *
        generalize S[i]?.getD 0 = v2 at *
        go_wp2_with (first | (at_builtin; (refine wpl_push_int R _ _ _ ?_ rfl _ _ rfl D k q _ rfl oD ?_ ?_ rfl hkb ?_); (focus (first | rfl | (simp; done))); (focus (repeat (first | exact Below.refl _ _ | assumption | refine bExt ?_ _ | refine bAlloc ?_ _ | refine bDrewN ?_ _ | refine bDrew ?_ | refine bSet ?_ (by first | exact Nat.le_refl _ | omega | (simp; done) | (simp; omega)) _))); (focus (repeat (first | exact Below.refl _ _ | assumption | refine bExt ?_ _ | refine bAlloc ?_ _ | refine bDrewN ?_ _ | refine bDrew ?_ | refine bSet ?_ (by first | exact Nat.le_refl _ | omega | (simp; done) | (simp; omega)) _))); intro D' q' y1 oD' hga hda; (have oE' := oE.kept hga hdj.symm.ne); (have oT' := oT.kept hga hdDT.symm.ne); (have hdj' := Dj.push hdj oE hda); (have hdDT' := Dj.push hdDT oT hda); (clear oD oE oT hdj hdDT hga hda)) | (at_builtin; (refine wpl_push_int R _ _ _ ?_ rfl _ _ rfl E k p _ rfl oE' ?_ ?_ rfl hkb ?_); (focus (first | rfl | (simp; done))); (focus (repeat (first | exact Below.refl _ _ | assumption | refine bExt ?_ _ | refine bAlloc ?_ _ | refine bDrewN ?_ _ | refine bDrew ?_ | refine bSet ?_ (by first | exact Nat.le_refl _ | omega | (simp; done) | (simp; omega)) _))); (focus (repeat (first | exact Below.refl _ _ | assumption | refine bExt ?_ _ | refine bAlloc ?_ _ | refine bDrewN ?_ _ | refine bDrew ?_ | refine bSet ?_ (by first | exact Nat.le_refl _ | omega | (simp; done) | (simp; omega)) _))); intro E' p' y2 oE2 hgb hdb; (have oD2 := oD'.kept hgb hdj'.ne); (have oT2 := oT'.kept hgb hdET.symm.ne); (have hdj2 := (Dj.push hdj'.symm oD' hdb).symm); (have hdET2 := Dj.push hdET oT' hdb); (clear oD' oE' oT' hdj' hdET hgb hdb)))
        go_roundw
        case rel => exact ⟨k + 1, D', q', E', p', y2, by omega, by go_num, rfl, rfl, rfl, by rw [HS1.out]; exact oD2, by rw [HS2.out]; exact oE2, oT2, hdj2, hdDT', hdET2⟩
        case measure => simp [intOf]; omega
      · have hkn := Lib.hid (show k = n1 by omega)
        rw [hkn.out] at oD oE
        go_wp2
        go_ret3
        rw [HTl.out, hkn.out]
        exact RetIIB.mk_ oD oE hdj HBR.out.size (HBR.out.trans ((ext_below _ _).mono HBR.out.size))
set_option maxHeartbeats 2000000 in
theorem implBoardAt_any (w : World) (L : Option Addr) (n cl : Nat) (l : List (Int × Int)) (a b c gap t : Int) (A : Option Addr) (m cs : Nat) (S : List Int) (hl : RdS w L n l) (hn : n ≤ 1099511627776) (hr : RdI w A m S) (hm : m ≤ 1099511627776) (hnc : n ≤ cl) :
    Calls Try.prog 27 #[.slice L n cl, .agg #[.int .i64 a, .int .i64 b, .int .i64 c, .int .i64 gap], .slice A m cs, .int .i64 t] w (RetIIB w (boS l a b c gap S t) (boK l a b c gap S t) (boB l a b c gap S t)) := by
  have Hl := Lib.hid hl.len
  have cA := fun w' h1 h2 => areScored_any w' L n cl l a b c gap A m cs S h1 hn h2 hm hnc
  cases hk : boB l a b c gap S t
  · have hv : boS l a b c gap S t = [] := by simp [boS, hk]
    have hv2 : boK l a b c gap S t = [] := by simp [boK, hk]
    rw [hv, hv2]
    unfold boB at hk
    go_enter Try.func27, Try.ntmps27
    go_wp2_with (first | (go_at_call 83; ((with_reducible refine (cA _ (hl.below (by repeat (first | exact Below.refl _ _ | assumption | refine bExt ?_ _ | refine bAlloc ?_ _ | refine bDrewN ?_ _ | refine bDrew ?_ | refine bSet ?_ (by first | exact Nat.le_refl _ | omega | (simp; done) | (simp; omega)) _))) (hr.below (by repeat (first | exact Below.refl _ _ | assumption | refine bExt ?_ _ | refine bAlloc ?_ _ | refine bDrewN ?_ _ | refine bDrew ?_ | refine bSet ?_ (by first | exact Nat.le_refl _ | omega | (simp; done) | (simp; omega)) _)))).mono ?_); rintro e w' ⟨rfl, x, rfl⟩)) | (go_at_call 69; ((with_reducible refine (isDayTime_any _ _).mono ?_); rintro e w' ⟨rfl, rfl⟩)))
    all_goals first | (go_ret3; exact RetIIB.mk_ OwI.nil_ OwI.nil_ Dj.nil_ (Nat.le_refl _) (by repeat (first | exact Below.refl _ _ | assumption | refine bExt ?_ _ | refine bAlloc ?_ _ | refine bDrewN ?_ _ | refine bDrew ?_ | refine bSet ?_ (by first | exact Nat.le_refl _ | omega | (simp; done) | (simp; omega)) _))) | (exfalso; simp_all)
  · have hv : boS l a b c gap S t = skL l (bdT l a b c gap S t) (bdT l a b c gap S t).length := by simp [boS, hk]
    have hv2 : boK l a b c gap S t = knS S (bdT l a b c gap S t) (bdT l a b c gap S t).length := by simp [boK, hk]
    rw [hv, hv2]
    clear hv hv2
    simp only [boB, Bool.and_eq_true] at hk
    obtain ⟨hsc, htt⟩ := hk
    obtain ⟨ht, hSl, hSb⟩ := scB_of hsc
    have hmn : m = n := by rw [← hr.len, hSl, hl.len]
    subst hmn
    rw [hsc] at cA
    have hm40 := (timed_facts hl.len ht).2.2.1
    have cB := fun w' h1 h2 => (boardAt_any w' L m cl l a b c gap t A cs S h1 hn ht h2 hSb).mono fun e w'' h => RetBd.to hl.len h
    have HTm := Lib.hid (fun x => bdT_mem (a := a) (b := b) (c := c) (gap := gap) (t := t) (S := S) hl.len (x := x))
    have hTle := bdT_len l a b c gap S t
    rw [hl.len] at hTle
    clear hSl hsc ht Hl hSb
    generalize bdT l a b c gap S t = T at *
    go_enter Try.func27, Try.ntmps27
    go_wp2_with (first | (go_at_call 83; ((with_reducible refine (cA _ (hl.below (by repeat (first | exact Below.refl _ _ | assumption | refine bExt ?_ _ | refine bAlloc ?_ _ | refine bDrewN ?_ _ | refine bDrew ?_ | refine bSet ?_ (by first | exact Nat.le_refl _ | omega | (simp; done) | (simp; omega)) _))) (hr.below (by repeat (first | exact Below.refl _ _ | assumption | refine bExt ?_ _ | refine bAlloc ?_ _ | refine bDrewN ?_ _ | refine bDrew ?_ | refine bSet ?_ (by first | exact Nat.le_refl _ | omega | (simp; done) | (simp; omega)) _)))).mono ?_); rintro e w' ⟨rfl, x, rfl⟩)) | (go_at_call 69; ((with_reducible refine (isDayTime_any _ _).mono ?_); rintro e w' ⟨rfl, rfl⟩)) | (go_at_call 84; ((with_reducible refine (cB _ (hl.below (by repeat (first | exact Below.refl _ _ | assumption | refine bExt ?_ _ | refine bAlloc ?_ _ | refine bDrewN ?_ _ | refine bDrew ?_ | refine bSet ?_ (by first | exact Nat.le_refl _ | omega | (simp; done) | (simp; omega)) _))) (hr.below (by repeat (first | exact Below.refl _ _ | assumption | refine bExt ?_ _ | refine bAlloc ?_ _ | refine bDrewN ?_ _ | refine bDrew ?_ | refine bSet ?_ (by first | exact Nat.le_refl _ | omega | (simp; done) | (simp; omega)) _)))).mono ?_); rintro e w' ⟨A1, n1, c1, x1, rfl, rfl, o1⟩)))
    have HTl := Lib.hid o1.len
    have hBR : Below w.heap.size w (ext (w.alloc (.cells #[.int .i64 a, .int .i64 b, .int .i64 c, .int .i64 gap] 25)) x) := by repeat (first | exact Below.refl _ _ | assumption | refine bExt ?_ _ | refine bAlloc ?_ _ | refine bDrewN ?_ _ | refine bDrew ?_ | refine bSet ?_ (by first | exact Nat.le_refl _ | omega | (simp; done) | (simp; omega)) _)
    have HBR := Lib.hid hBR
    have hlR := hl.below hBR
    have hrR := hr.below hBR
    have oa := (OwI.lit_ (Below.refl _ (ext (w.alloc (.cells #[.int .i64 a, .int .i64 b, .int .i64 c, .int .i64 gap] 25)) x)) [] (by simp [maxLen]) #[] rfl).below (bExt (bAlloc (Below.refl _ _) (.cells #[] 3)) x1)
    have ob := (OwI.lit_ (bAlloc (Below.refl _ (ext (w.alloc (.cells #[.int .i64 a, .int .i64 b, .int .i64 c, .int .i64 gap] 25)) x)) (.cells #[] 3)) [] (by simp [maxLen]) #[] rfl).below (bExt (Below.refl _ _) x1)
    have hdab : Dj (some ⟨(ext (w.alloc (.cells #[.int .i64 a, .int .i64 b, .int .i64 c, .int .i64 gap] 25)) x).heap.size, 0, none⟩) (some ⟨((ext (w.alloc (.cells #[.int .i64 a, .int .i64 b, .int .i64 c, .int .i64 gap] 25)) x).alloc (.cells #[] 3)).heap.size, 0, none⟩) := fun g h h2 => by simp [blkOf] at h h2; omega
    have hdaT : Dj (some ⟨(ext (w.alloc (.cells #[.int .i64 a, .int .i64 b, .int .i64 c, .int .i64 gap] 25)) x).heap.size, 0, none⟩) A1 := fun g h h2 => by have := (o1.blk h2).1; simp [blkOf] at h this; omega
    have hdbT : Dj (some ⟨((ext (w.alloc (.cells #[.int .i64 a, .int .i64 b, .int .i64 c, .int .i64 gap] 25)) x).alloc (.cells #[] 3)).heap.size, 0, none⟩) A1 := fun g h h2 => by have := (o1.blk h2).1; simp [blkOf] at h this; omega
    obtain ⟨y0, hy0⟩ := ext_ex (show Below (ext (w.alloc (.cells #[.int .i64 a, .int .i64 b, .int .i64 c, .int .i64 gap] 25)) x).heap.size (ext (w.alloc (.cells #[.int .i64 a, .int .i64 b, .int .i64 c, .int .i64 gap] 25)) x) (ext (((ext (w.alloc (.cells #[.int .i64 a, .int .i64 b, .int .i64 c, .int .i64 gap] 25)) x).alloc (.cells #[] 3)).alloc (.cells #[] 3)) x1) from by repeat (first | exact Below.refl _ _ | assumption | refine bExt ?_ _ | refine bAlloc ?_ _ | refine bDrewN ?_ _ | refine bDrew ?_ | refine bSet ?_ (by first | exact Nat.le_refl _ | omega | (simp; done) | (simp; omega)) _))
    have oT0 := o1.mono (base_le (show Below (ext (w.alloc (.cells #[.int .i64 a, .int .i64 b, .int .i64 c, .int .i64 gap] 25)) x).heap.size (ext (w.alloc (.cells #[.int .i64 a, .int .i64 b, .int .i64 c, .int .i64 gap] 25)) x) (((ext (w.alloc (.cells #[.int .i64 a, .int .i64 b, .int .i64 c, .int .i64 gap] 25)) x).alloc (.cells #[] 3)).alloc (.cells #[] 3)) from by repeat (first | exact Below.refl _ _ | assumption | refine bExt ?_ _ | refine bAlloc ?_ _ | refine bDrewN ?_ _ | refine bDrew ?_ | refine bSet ?_ (by first | exact Nat.le_refl _ | omega | (simp; done) | (simp; omega)) _)))
    rw [hy0] at oa ob oT0 ⊢
    have hsz1 : ((ext (w.alloc (.cells #[.int .i64 a, .int .i64 b, .int .i64 c, .int .i64 gap] 25)) x).alloc (.cells #[] 3)).heap.size = (ext (w.alloc (.cells #[.int .i64 a, .int .i64 b, .int .i64 c, .int .i64 gap] 25)) x).heap.size + 1 := by simp
    rw [hsz1] at ob hdab hdbT
    clear o1 hBR cA cB
    generalize (ext (w.alloc (.cells #[.int .i64 a, .int .i64 b, .int .i64 c, .int .i64 gap] 25)) x) = R at *
    go_loopw [11, 12, 33] (fun u v i wr => ∃ (k : Nat) (D : Option Addr) (q : Nat) (E : Option Addr) (p : Nat) (y : World), k ≤ n1 ∧ i = .int .i64 k ∧ u = .slice D k q ∧ v = .slice E k p ∧ wr = ext R y ∧ OwI R.heap.size (ext R y) D k q (skL l T k) ∧ OwI R.heap.size (ext R y) E k p (knS S T k) ∧ OwI R.heap.size (ext R y) A1 n1 c1 T ∧ Dj D E ∧ Dj D A1 ∧ Dj E A1) (fun _ _ i _ => n1 - (intOf i).toNat)
    case atStart => exact ⟨0, _, 0, _, 0, y0, by omega, rfl, rfl, rfl, rfl, oa, ob, oT0, hdab, hdaT, hdbT⟩
    case round =>
      obtain ⟨k, D, q, E, p, y, hk, rfl, rfl, rfl, rfl, oD, oE, oT, hdj, hdDT, hdET⟩ := hrel
      by_cases hlt : k < n1
      · obtain ⟨g, rfl, hg1, hg2⟩ := oT.form_ (by omega)
        have hck := oT.cell_ k hlt
        obtain ⟨i, hi, hie⟩ := HTm.out _ (getD_mem 0 T k (by rw [HTl.out]; exact hlt))
        have HS1 := Lib.hid (skL_succ (l := l) (by rw [HTl.out]; exact hlt) hie)
        have HS2 := Lib.hid (knS_succ (S := S) (by rw [HTl.out]; exact hlt) hie)
        rw [hie] at hck
        clear hie
        obtain ⟨b2, o2, rfl, hb2, hm0, hm1⟩ := hlR.at_ i hi
        obtain ⟨b3, o3, rfl, hb3, hc3⟩ := hrR.open_ (by omega)
        have hci := hc3 i hi
        rw [List.getD_eq_getElem?_getD] at hci
        clear hc3
        have hiI : (i : Int) < m := by omega
        have hkb : k ≤ 1099511627776 := by have := HTl.out; omega
        generalize (l[i]?.getD (0, 0)).1 = v1 at *
        generalize (l[i]?.getD (0, 0)).2 = v9 at *
        generalize S[i]?.getD 0 = v2 at *
        go_wp2_with (first | (at_builtin; (refine wpl_push_int R _ _ _ ?_ rfl _ _ rfl D k q _ rfl oD ?_ ?_ rfl hkb ?_); (focus (first | rfl | (simp; done))); (focus (repeat (first | exact Below.refl _ _ | assumption | refine bExt ?_ _ | refine bAlloc ?_ _ | refine bDrewN ?_ _ | refine bDrew ?_ | refine bSet ?_ (by first | exact Nat.le_refl _ | omega | (simp; done) | (simp; omega)) _))); (focus (repeat (first | exact Below.refl _ _ | assumption | refine bExt ?_ _ | refine bAlloc ?_ _ | refine bDrewN ?_ _ | refine bDrew ?_ | refine bSet ?_ (by first | exact Nat.le_refl _ | omega | (simp; done) | (simp; omega)) _))); intro D' q' y1 oD' hga hda; (have oE' := oE.kept hga hdj.symm.ne); (have oT' := oT.kept hga hdDT.symm.ne); (have hdj' := Dj.push hdj oE hda); (have hdDT' := Dj.push hdDT oT hda); (clear oD oE oT hdj hdDT hga hda)) | (at_builtin; (refine wpl_push_int R _ _ _ ?_ rfl _ _ rfl E k p _ rfl oE' ?_ ?_ rfl hkb ?_); (focus (first | rfl | (simp; done))); (focus (repeat (first | exact Below.refl _ _ | assumption | refine bExt ?_ _ | refine bAlloc ?_ _ | refine bDrewN ?_ _ | refine bDrew ?_ | refine bSet ?_ (by first | exact Nat.le_refl _ | omega | (simp; done) | (simp; omega)) _))); (focus (repeat (first | exact Below.refl _ _ | assumption | refine bExt ?_ _ | refine bAlloc ?_ _ | refine bDrewN ?_ _ | refine bDrew ?_ | refine bSet ?_ (by first | exact Nat.le_refl _ | omega | (simp; done) | (simp; omega)) _))); intro E' p' y2 oE2 hgb hdb; (have oD2 := oD'.kept hgb hdj'.ne); (have oT2 := oT'.kept hgb hdET.symm.ne); (have hdj2 := (Dj.push hdj'.symm oD' hdb).symm); (have hdET2 := Dj.push hdET oT' hdb); (clear oD' oE' oT' hdj' hdET hgb hdb)))
        go_roundw
        case rel => exact ⟨k + 1, D', q', E', p', y2, by omega, by go_num, rfl, rfl, rfl, by rw [HS1.out]; exact oD2, by rw [HS2.out]; exact oE2, oT2, hdj2, hdDT', hdET2⟩
        case measure => simp [intOf]; omega
      · have hkn := Lib.hid (show k = n1 by omega)
        rw [hkn.out] at oD oE
        go_wp2
        go_ret3
        rw [HTl.out, hkn.out]
        exact RetIIB.mk_ oD oE hdj HBR.out.size (HBR.out.trans ((ext_below _ _).mono HBR.out.size))
end Go.Proofs.Ytogglhgagblihaa
