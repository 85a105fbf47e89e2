/- Contracts of AreSlots, in the program and in the reference, and of what they call. Conditions: lengths below 2^40. -/
import Derived.Test.YtpjaiihkgeabiaaDoorSlots
import Derived.Test.YtpjaiihkgeabiaaDoorDay
set_option linter.unusedVariables false
set_option linter.unusedSimpArgs false
set_option maxRecDepth 100000
namespace Go.Proofs.YtpjaiihkgeabiaaDoor
open Go.RowKit
def slotOkAt (l : List (Int × Int)) (i : Nat) : Bool := inB (l[i]?.getD (0, 0)).1 1 999 && !((l.take i).any fun y => y.1 == (l[i]?.getD (0, 0)).1) && inB (l[i]?.getD (0, 0)).2 30 300
def slotsB (l : List (Int × Int)) : Bool := (List.range l.length).all (slotOkAt l) && inB l.length 1 40
theorem slotsB_false {l : List (Int × Int)} {k : Nat} (hk : k < l.length) (h : slotOkAt l k = false) : slotsB l = false := by
  unfold slotsB
  rw [Bool.and_eq_false_iff]; left
  rw [Bool.eq_false_iff]; intro hh
  have := List.all_eq_true.1 hh k (by simpa using hk)
  rw [h] at this; cases this
theorem slotsB_end {l : List (Int × Int)} (h : ∀ i, i < l.length → slotOkAt l i = true) : slotsB l = inB l.length 1 40 := by
  unfold slotsB
  have : (List.range l.length).all (slotOkAt l) = true := List.all_eq_true.2 fun i hi => h i (by simpa using hi)
  rw [this, Bool.true_and]
theorem slotsB_of {l : List (Int × Int)} (h : slotsB l = true) : (∀ i, i < l.length → slotOkAt l i = true) ∧ 1 ≤ l.length ∧ l.length ≤ 40 := by
  unfold slotsB at h
  simp only [Bool.and_eq_true] at h
  have h2 := inB_iff.1 h.2
  exact ⟨fun i hi => List.all_eq_true.1 h.1 i (by simpa using hi), by omega, by omega⟩
theorem slotsB_music {l : List (Int × Int)} (h : slotsB l = true) (i : Nat) (hi : i < l.length) : 30 ≤ (l[i]?.getD (0, 0)).2 ∧ (l[i]?.getD (0, 0)).2 ≤ 300 := by
  have := (slotsB_of h).1 i hi
  simp only [slotOkAt, Bool.and_eq_true] at this
  exact inB_iff.1 this.2
theorem slotsB_skater {l : List (Int × Int)} (h : slotsB l = true) (i : Nat) (hi : i < l.length) : 1 ≤ (l[i]?.getD (0, 0)).1 ∧ (l[i]?.getD (0, 0)).1 ≤ 999 := by
  have := (slotsB_of h).1 i hi
  simp only [slotOkAt, Bool.and_eq_true] at this
  exact inB_iff.1 this.1.1
def skatesB (l : List (Int × Int)) (x : Int) : Bool := l.any fun y => y.1 == x
theorem met_any (l : List (Int × Int)) (x : Int) : (l.map (·.1)).any (· == x) = l.any fun y => y.1 == x := by
  rw [List.any_map]; rfl
theorem slotOkAt_eq {l : List (Int × Int)} {k : Nat} {p : Int × Int} (hp : l[k]?.getD (0, 0) = p) : slotOkAt l k = (inB p.1 1 999 && !(hasB ((l.take k).map (·.1)) p.1) && inB p.2 30 300) := by
  unfold slotOkAt hasB; rw [hp, met_any]
section
variable {l : List (Int × Int)} {k n : Nat} {p : Int × Int}
theorem slots_no1 (hl : l.length = n) (hk : k < n) (hp : l[k]?.getD (0, 0) = p) (h : inB p.1 1 999 = false) : false = slotsB l := by
  rw [slotsB_false (k := k) (by omega)]; rw [slotOkAt_eq hp]; simp [h]
theorem slots_no2 (hl : l.length = n) (hk : k < n) (hp : l[k]?.getD (0, 0) = p) (h : hasB ((l.take k).map (·.1)) p.1 = true) : false = slotsB l := by
  rw [slotsB_false (k := k) (by omega)]; rw [slotOkAt_eq hp, h]; simp
theorem slots_no3 (hl : l.length = n) (hk : k < n) (hp : l[k]?.getD (0, 0) = p) (h : inB p.2 30 300 = false) : false = slotsB l := by
  rw [slotsB_false (k := k) (by omega)]; rw [slotOkAt_eq hp, h]; simp
theorem slots_yes (hp : l[k]?.getD (0, 0) = p) (h1 : inB p.1 1 999 = true) (h2 : hasB ((l.take k).map (·.1)) p.1 = false) (h3 : inB p.2 30 300 = true) : slotOkAt l k = true := by
  rw [slotOkAt_eq hp, h1, h2, h3]; rfl
theorem slots_more (hok : ∀ j, j < k → Hid (slotOkAt l j = true)) (h : slotOkAt l k = true) : ∀ j, j < k + 1 → Hid (slotOkAt l j = true) := fun j hj => by
  by_cases e : j = k
  · subst e; exact h
  · exact hok j (by omega)
end
set_option maxHeartbeats 1000000 in
theorem tiSlots_any (w : World) (A : Option Addr) (n c : Nat) (l : List (Int × Int)) (ha : RdS w A n l) (hn : n ≤ 1099511627776) :
    Calls Tryd.prog 103 #[.slice A n c] w fun e w' => e = .returned (.bool (slotsB l)) ∧ ∃ x, w' = ext w x := by
  have Hl := Lib.hid ha.len
  go_enter Tryd.func103, Tryd.ntmps103
  go_wp2
  go_loopw [3, 5, 8] (fun v _ i wr => ∃ (k : Nat) (B : Option Addr) (d : Nat) (x : World), k ≤ n ∧ i = .int .i64 k ∧ v = .slice B k d ∧ wr = ext w x ∧ OwI w.heap.size (ext w x) B k d ((l.take k).map (·.1)) ∧ (∀ j, j < k → Hid (slotOkAt l j = true))) (fun _ _ i _ => n - (intOf i).toNat)
  case atStart => exact ⟨0, none, 0, _, by omega, rfl, rfl, ext_self w, OwI.nil_, fun j hj => by omega⟩
  case round =>
    obtain ⟨k, B, d, x, hk, rfl, rfl, rfl, ho, hok⟩ := hrel
    generalize hM : (l.take k).map (·.1) = M at ho
    have HM := Lib.hid hM
    clear hM
    by_cases hlt : k < n
    · obtain ⟨b, off, rfl, hb, hc0, hc1⟩ := ha.at_ k hlt
      have hkb : k ≤ 1099511627776 := by omega
      have HT := Lib.hid (take_succ_getD (0, 0) l k (by rw [Hl.out]; exact hlt))
      obtain ⟨p, hp⟩ : ∃ p, l[k]?.getD (0, 0) = p := ⟨_, rfl⟩
      have HP := Lib.hid hp
      rw [hp] at hc0 hc1
      clear hp
      have hrm := ho.rd
      go_wp2_with (first
        | (go_at_call 84; ((with_reducible refine (l1In_any _ _ _ _).mono ?_); rintro e w' ⟨rfl, rfl⟩))
        | (go_at_call 117; ((with_reducible refine (l1Has_any _ _ _ _ _ _ (hrm.below (bAlloc (Below.refl _ _) _)) hkb).mono ?_); rintro e w' ⟨rfl, rfl⟩))
        | (at_builtin; (refine wpl_push_int w _ _ _ ?_ rfl _ _ rfl B k d _ rfl ho ?_ ?_ rfl hkb ?_); (focus (first | rfl | (simp; done))); (focus (repeat (first | exact Below.refl _ _ | assumption | refine bExt ?_ _ | refine bAlloc ?_ _ | refine bDrewN ?_ _ | refine bDrew ?_ | refine bSet ?_ (by first | exact Nat.le_refl _ | omega | (simp; done) | (simp; omega)) _))); (focus (repeat (first | exact Below.refl _ _ | assumption | refine bExt ?_ _ | refine bAlloc ?_ _ | refine bDrewN ?_ _ | refine bDrew ?_ | refine bSet ?_ (by first | exact Nat.le_refl _ | omega | (simp; done) | (simp; omega)) _))); intro A' c' y ho' hg hd))
      · go_ret
        exact ⟨ret_bool (slots_no1 Hl.out hlt HP.out ‹_›), ext_ex (by repeat (first | exact Below.refl _ _ | assumption | refine bExt ?_ _ | refine bAlloc ?_ _ | refine bDrewN ?_ _ | refine bDrew ?_ | refine bSet ?_ (by first | exact Nat.le_refl _ | omega | (simp; done) | (simp; omega)) _))⟩
      · go_ret
        exact ⟨ret_bool (slots_no2 Hl.out hlt HP.out (by rw [HM.out]; assumption)), ext_ex (by repeat (first | exact Below.refl _ _ | assumption | refine bExt ?_ _ | refine bAlloc ?_ _ | refine bDrewN ?_ _ | refine bDrew ?_ | refine bSet ?_ (by first | exact Nat.le_refl _ | omega | (simp; done) | (simp; omega)) _))⟩
      · go_ret
        have h3 : (!inB p.2 30 300) = true := by assumption
        exact ⟨ret_bool (slots_no3 Hl.out hlt HP.out (by simpa using h3)), ext_ex (by repeat (first | exact Below.refl _ _ | assumption | refine bExt ?_ _ | refine bAlloc ?_ _ | refine bDrewN ?_ _ | refine bDrew ?_ | refine bSet ?_ (by first | exact Nat.le_refl _ | omega | (simp; done) | (simp; omega)) _))⟩
      · have h3 : (!inB p.2 30 300) = false := by assumption
        have hyes := slots_yes HP.out ‹_› (by rw [HM.out]; assumption) (by simpa using h3)
        go_roundw
        case rel => exact ⟨k + 1, A', c', y, by omega, by go_num, rfl, rfl, by rw [HT.out, HP.out, List.map_append, HM.out]; exact ho', slots_more hok hyes⟩
        case measure => simp [intOf]; omega
    · have Hfin := Lib.hid (show slotsB l = inB n 1 40 by rw [slotsB_end (fun i hi => (hok i (by rw [Hl.out] at hi; omega)).out), Hl.out])
      go_wp2_with (go_at_call 84; ((with_reducible refine (l1In_any _ _ _ _).mono ?_); rintro e w' ⟨rfl, rfl⟩))
      go_ret
      exact ⟨ret_bool Hfin.out.symm, _, rfl⟩
theorem isSkater_any (a : Int) (w : World) :
    Calls Tryd.prog 112 #[.int .i64 a] w fun e w' => e = .returned (.bool (inB a 1 999)) ∧ w = w' := by
  go_enter Tryd.func112, Tryd.ntmps112
  go_wp2_with (go_at_call 80; ((with_reducible refine (within_any _ _ _ _).mono ?_); rintro e w' ⟨rfl, rfl⟩))
  go_ret
  exact ⟨rfl, rfl⟩
theorem sameSkater_any (a b x : Int) (g : Nat) (w : World) (hg : w.cell? ⟨g, 0, none⟩ = some (.int .i64 x)) (hz : g < w.heap.size) :
    Calls Tryd.prog 114 #[.agg #[.int .i64 a, .int .i64 b], .pointer (some ⟨g, 0, none⟩)] w fun e w' => e = .returned (.bool (a == x)) ∧ ∃ x, w' = ext w x := by
  go_enter Tryd.func114, Tryd.ntmps114
  go_wp2
  go_ret
  exact ⟨rfl, ext_ex (by repeat (first | exact Below.refl _ _ | assumption | refine bExt ?_ _ | refine bAlloc ?_ _ | refine bDrewN ?_ _ | refine bDrew ?_ | refine bSet ?_ (by first | exact Nat.le_refl _ | omega | (simp; done) | (simp; omega)) _))⟩
def IdxPost (w : World) (b : Bool) (e : Ending) (w' : World) : Prop := ∃ (i : Int) (x : World), e = .returned (.int .i64 i) ∧ w' = ext w x ∧ decide (0 ≤ i) = b
set_option maxHeartbeats 400000 in
theorem indexSkater_any (w : World) (A : Option Addr) (n c : Nat) (l : List (Int × Int)) (x : Int) (g : Nat) (ha : RdS w A n l) (hn : n ≤ 1099511627776) (hg : w.cell? ⟨g, 0, none⟩ = some (.int .i64 x)) (hz : g < w.heap.size) :
    Calls Tryd.prog 124 #[.slice A n c, .func (.func 114) #[] #[.pointer (some ⟨g, 0, none⟩)]] w (IdxPost w (skatesB l x)) := by
  have Hl := Lib.hid ha.len
  unfold skatesB
  go_enter Tryd.func124, Tryd.ntmps124
  go_wp2
  go_loopw [5, 8] (fun _ i wr => ∃ (k : Nat) (y : World), k ≤ n ∧ i = .int .i64 k ∧ wr = ext w y ∧ Hid ((l.take k).any (fun y => y.1 == x) = false)) (fun _ i _ => n - (intOf i).toNat)
  case atStart => exact ⟨0, _, by omega, rfl, ext_self w, rfl⟩
  case round =>
    obtain ⟨k, y, hk, rfl, rfl, HT⟩ := hrel
    by_cases hlt : k < n
    · obtain ⟨b, off, rfl, hb, hc0, hc1⟩ := ha.at_ k hlt
      go_wp2_with (go_at_call 114; ((with_reducible refine (sameSkater_any _ _ x g _ (by simp [go_sem, hg, hz]) (by simp [go_sem, hz])).mono ?_); rintro e w' ⟨rfl, z, rfl⟩))
      · go_ret
        exact ⟨k, _, rfl, (ext_ex (by repeat (first | exact Below.refl _ _ | assumption | refine bExt ?_ _ | refine bAlloc ?_ _ | refine bDrewN ?_ _ | refine bDrew ?_ | refine bSet ?_ (by first | exact Nat.le_refl _ | omega | (simp; done) | (simp; omega)) _))).choose_spec, by rw [any_hit (0, 0) (by rw [Hl.out]; exact hlt) ‹_›]; simp⟩
      · go_roundw
        case rel => exact ⟨k + 1, _, by omega, by go_num, (ext_ex (by repeat (first | exact Below.refl _ _ | assumption | refine bExt ?_ _ | refine bAlloc ?_ _ | refine bDrewN ?_ _ | refine bDrew ?_ | refine bSet ?_ (by first | exact Nat.le_refl _ | omega | (simp; done) | (simp; omega)) _))).choose_spec, any_step (0, 0) (by rw [Hl.out]; exact hlt) HT.out ‹_›⟩
        case measure => simp [intOf]; omega
    · have Hend := Lib.hid (any_end HT.out (by rw [Hl.out]; omega))
      go_wp2
      go_ret
      exact ⟨-1, _, rfl, rfl, by rw [Hend.out]; rfl⟩
theorem containsSkater_any (w : World) (A : Option Addr) (n c : Nat) (l : List (Int × Int)) (x : Int) (g : Nat) (ha : RdS w A n l) (hn : n ≤ 1099511627776) (hg : w.cell? ⟨g, 0, none⟩ = some (.int .i64 x)) (hz : g < w.heap.size) :
    Calls Tryd.prog 113 #[.slice A n c, .func (.func 114) #[] #[.pointer (some ⟨g, 0, none⟩)]] w fun e w' => e = .returned (.bool (skatesB l x)) ∧ ∃ x, w' = ext w x := by
  go_enter Tryd.func113, Tryd.ntmps113
  go_wp2_with (go_at_call 124; ((with_reducible refine (indexSkater_any _ _ _ _ _ x g ha hn hg hz).mono ?_); rintro e w' ⟨i, y, rfl, rfl, hi⟩))
  go_ret
  exact ⟨by simp_all, _, rfl⟩
set_option maxHeartbeats 1000000 in
theorem implAreSlots_any (w : World) (A : Option Addr) (n c : Nat) (l : List (Int × Int)) (ha : RdS w A n l) (hn : n ≤ 1099511627776) (hnc : n ≤ c) :
    Calls Tryd.prog 98 #[.slice A n c] w fun e w' => e = .returned (.bool (slotsB l)) ∧ ∃ x, w' = ext w x := by
  have Hl := Lib.hid ha.len
  go_enter Tryd.func98, Tryd.ntmps98
  go_wp2
  go_loopw [3, 4, 7] (fun _ _ i wr => ∃ (k : Nat) (x : World), k ≤ n ∧ i = .int .i64 k ∧ wr = ext w x ∧ (∀ j, j < k → Hid (slotOkAt l j = true))) (fun _ _ i _ => n - (intOf i).toNat)
  case atStart => exact ⟨0, _, by omega, rfl, ext_self w, fun j hj => by omega⟩
  case round =>
    obtain ⟨k, x, hk, rfl, rfl, hok⟩ := hrel
    by_cases hlt : k < n
    · have hat := ha.take_ k hk
      obtain ⟨b, off, rfl, hb, hc0, hc1⟩ := ha.at_ k hlt
      obtain ⟨p, hp⟩ : ∃ p, l[k]?.getD (0, 0) = p := ⟨_, rfl⟩
      have HP := Lib.hid hp
      rw [hp] at hc0 hc1
      clear hp
      have hkb : k ≤ 1099511627776 := by omega
      go_wp2_with (first
        | (go_at_call 112; ((with_reducible refine (isSkater_any _ _).mono ?_); rintro e w' ⟨rfl, rfl⟩))
        | (go_at_call 80; ((with_reducible refine (within_any _ _ _ _).mono ?_); rintro e w' ⟨rfl, rfl⟩))
        | (go_at_call 113; ((with_reducible refine (containsSkater_any _ _ _ _ (l.take k) p.1 (ext w x).heap.size (hat.below (bAlloc (ext_below _ _) _)) hkb (by simp [go_sem]) (by simp [go_sem])).mono ?_); rintro e w' ⟨rfl, z, rfl⟩)))
      · go_ret
        exact ⟨ret_bool (slots_no1 Hl.out hlt HP.out ‹_›), ext_ex (by repeat (first | exact Below.refl _ _ | assumption | refine bExt ?_ _ | refine bAlloc ?_ _ | refine bDrewN ?_ _ | refine bDrew ?_ | refine bSet ?_ (by first | exact Nat.le_refl _ | omega | (simp; done) | (simp; omega)) _))⟩
      · go_ret
        have h3 : (!inB p.2 30 300) = true := by assumption
        exact ⟨ret_bool (slots_no3 Hl.out hlt HP.out (by simpa using h3)), ext_ex (by repeat (first | exact Below.refl _ _ | assumption | refine bExt ?_ _ | refine bAlloc ?_ _ | refine bDrewN ?_ _ | refine bDrew ?_ | refine bSet ?_ (by first | exact Nat.le_refl _ | omega | (simp; done) | (simp; omega)) _))⟩
      · go_ret
        exact ⟨ret_bool (slots_no2 Hl.out hlt HP.out (by rw [hasB, met_any]; assumption)), ext_ex (by repeat (first | exact Below.refl _ _ | assumption | refine bExt ?_ _ | refine bAlloc ?_ _ | refine bDrewN ?_ _ | refine bDrew ?_ | refine bSet ?_ (by first | exact Nat.le_refl _ | omega | (simp; done) | (simp; omega)) _))⟩
      · have h3 : (!inB p.2 30 300) = false := by assumption
        have h4 : skatesB (l.take k) p.1 = false := by assumption
        have hyes := slots_yes HP.out ‹_› (by rw [hasB, met_any]; exact h4) (by simpa using h3)
        go_roundw
        case rel => exact ⟨k + 1, _, by omega, by go_num, (ext_ex (by repeat (first | exact Below.refl _ _ | assumption | refine bExt ?_ _ | refine bAlloc ?_ _ | refine bDrewN ?_ _ | refine bDrew ?_ | refine bSet ?_ (by first | exact Nat.le_refl _ | omega | (simp; done) | (simp; omega)) _))).choose_spec, slots_more hok hyes⟩
        case measure => simp [intOf]; omega
    · have Hfin := Lib.hid (show slotsB l = inB n 1 40 by rw [slotsB_end (fun i hi => (hok i (by rw [Hl.out] at hi; omega)).out), Hl.out])
      go_wp2_with (go_at_call 80; ((with_reducible refine (within_any _ _ _ _).mono ?_); rintro e w' ⟨rfl, rfl⟩))
      go_ret
      exact ⟨ret_bool Hfin.out.symm, _, rfl⟩
end Go.Proofs.YtpjaiihkgeabiaaDoor
