/- Contracts of AreOfficials and of the tests on rising lists, in the program and in the reference. Conditions: lengths below 2^40. -/
import Derived.Test.YtppcmnolkbobfaaTrip
import Derived.Test.YtppcmnolkbobfaaInts
set_option linter.unusedVariables false
set_option linter.unusedSimpArgs false
set_option maxRecDepth 100000
namespace Go.Proofs.Ytppcmnolkbobfaa
open Go.ChangeShapes Go.WideShapes Go.ChangeAt Go.RowKit
def offOkAt (l : List T3) (i : Nat) : Bool := inB (l[i]?.getD z3).1 1 999 && !((l.take i).any fun y => y.1 == (l[i]?.getD z3).1) && inB (l[i]?.getD z3).2.1 1 20 && inB (l[i]?.getD z3).2.2 1 3
def offsB (l : List T3) : Bool := (List.range l.length).all (offOkAt l) && decide (l.length ≤ 24)
theorem offsB_false {l : List T3} {k : Nat} (hk : k < l.length) (h : offOkAt l k = false) : offsB l = false := by
  unfold offsB
  rw [Bool.and_eq_false_iff]; left
  rw [Bool.eq_false_iff]; intro hh
  have := List.all_eq_true.1 hh k (by simpa using hk)
  rw [h] at this; cases this
theorem offsB_end {l : List T3} (h : ∀ i, i < l.length → offOkAt l i = true) : offsB l = decide (l.length ≤ 24) := by
  unfold offsB
  have : (List.range l.length).all (offOkAt l) = true := List.all_eq_true.2 fun i hi => h i (by simpa using hi)
  rw [this, Bool.true_and]
def metB (l : List T3) (x : Int) : Bool := l.any fun y => y.1 == x
theorem met3 (l : List T3) (x : Int) : hasB (l.map (·.1)) x = metB l x := by unfold hasB metB; rw [List.any_map]; rfl
theorem offOkAt_eq {l : List T3} {k : Nat} {p : T3} (hp : l[k]?.getD z3 = p) : offOkAt l k = (inB p.1 1 999 && !(metB (l.take k) p.1) && inB p.2.1 1 20 && inB p.2.2 1 3) := by
  unfold offOkAt metB; rw [hp]
section
variable {l : List T3} {k n : Nat} {p : T3}
theorem off_no1 (hl : l.length = n) (hk : k < n) (hp : l[k]?.getD z3 = p) (h : inB p.1 1 999 = false) : false = offsB l := by
  rw [offsB_false (k := k) (by omega)]; rw [offOkAt_eq hp]; simp [h]
theorem off_no2 (hl : l.length = n) (hk : k < n) (hp : l[k]?.getD z3 = p) (h : metB (l.take k) p.1 = true) : false = offsB l := by
  rw [offsB_false (k := k) (by omega)]; rw [offOkAt_eq hp, h]; simp
theorem off_no3 (hl : l.length = n) (hk : k < n) (hp : l[k]?.getD z3 = p) (h : inB p.2.1 1 20 = false) : false = offsB l := by
  rw [offsB_false (k := k) (by omega)]; rw [offOkAt_eq hp, h]; simp
theorem off_no4 (hl : l.length = n) (hk : k < n) (hp : l[k]?.getD z3 = p) (h : inB p.2.2 1 3 = false) : false = offsB l := by
  rw [offsB_false (k := k) (by omega)]; rw [offOkAt_eq hp, h]; simp
theorem off_yes (hp : l[k]?.getD z3 = p) (h1 : inB p.1 1 999 = true) (h2 : metB (l.take k) p.1 = false) (h3 : inB p.2.1 1 20 = true) (h4 : inB p.2.2 1 3 = true) : offOkAt l k = true := by
  rw [offOkAt_eq hp, h1, h2, h3, h4]; rfl
theorem off_more (hok : ∀ j, j < k → Hid (offOkAt l j = true)) (h : offOkAt l k = true) : ∀ j, j < k + 1 → Hid (offOkAt l j = true) := fun j hj => by
  by_cases e : j = k
  · subst e; exact h
  · exact hok j (by omega)
end
set_option maxHeartbeats 1000000 in
theorem paOfficials_any (w : World) (A : Option Addr) (n c : Nat) (l : List T3) (ha : Rd3 w A n l) (hn : n ≤ 1099511627776) :
    Calls Try.prog 181 #[.slice A n c] w fun e w' => e = .returned (.bool (offsB l)) ∧ ∃ x, w' = ext w x := by
  have Hl := Lib.hid ha.len
  go_enter Try.func181, Try.ntmps181
  go_wp2
  go_loopw [3, 5, 8] (fun v _ i wr => ∃ (k : Nat) (B : Option Addr) (d : Nat) (x : World), k ≤ n ∧ i = .int .i64 k ∧ v = .slice B k d ∧ wr = ext w x ∧ OwI w.heap.size (ext w x) B k d ((l.take k).map (·.1)) ∧ (∀ j, j < k → Hid (offOkAt l j = true))) (fun _ _ i _ => n - (intOf i).toNat)
  case atStart => exact ⟨0, none, 0, _, by omega, rfl, rfl, ext_self w, OwI.nil_, fun j hj => by omega⟩
  case round =>
    obtain ⟨k, B, d, x, hk, rfl, rfl, rfl, ho, hok⟩ := hrel
    have HQ : ∀ q, Hid (hasB ((l.take k).map (·.1)) q = metB (l.take k) q) := fun q => met3 _ _
    generalize hM : (l.take k).map (·.1) = M at ho HQ
    have HM := Lib.hid hM
    clear hM
    by_cases hlt : k < n
    · obtain ⟨b, off, rfl, hb, hc0, hc1, hc2⟩ := ha.at_ k hlt
      have hkb : k ≤ 1099511627776 := by omega
      have HT := Lib.hid (take_succ_getD z3 l k (by rw [Hl.out]; exact hlt))
      obtain ⟨p, hp⟩ : ∃ p, l[k]?.getD z3 = p := ⟨_, rfl⟩
      have HP := Lib.hid hp
      rw [hp] at hc0 hc1 hc2
      clear hp
      have hrm := ho.rd
      go_wp2_with (first
        | (go_at_call 98; ((with_reducible refine (l1In_any _ _ _ _).mono ?_); rintro e w' ⟨rfl, rfl⟩))
        | (go_at_call 180; ((with_reducible refine (l1Has_any _ _ _ _ _ _ (hrm.below (bAlloc (Below.refl _ _) _)) hkb).mono ?_); rintro e w' ⟨rfl, rfl⟩))
        | (at_builtin; (refine wpl_push_int w _ _ _ ?_ rfl _ _ rfl B k d _ rfl ho ?_ ?_ rfl hkb ?_); (focus (first | rfl | (simp; done))); (focus (repeat (first | exact Below.refl _ _ | assumption | refine bExt ?_ _ | refine bAlloc ?_ _ | refine bDrewN ?_ _ | refine bDrew ?_ | refine bSet ?_ (by first | exact Nat.le_refl _ | omega | (simp; done) | (simp; omega)) _))); (focus (repeat (first | exact Below.refl _ _ | assumption | refine bExt ?_ _ | refine bAlloc ?_ _ | refine bDrewN ?_ _ | refine bDrew ?_ | refine bSet ?_ (by first | exact Nat.le_refl _ | omega | (simp; done) | (simp; omega)) _))); intro A' c' y ho' hg hd))
      · go_ret
        exact ⟨ret_bool (off_no1 Hl.out hlt HP.out ‹_›), ext_ex (by repeat (first | exact Below.refl _ _ | assumption | refine bExt ?_ _ | refine bAlloc ?_ _ | refine bDrewN ?_ _ | refine bDrew ?_ | refine bSet ?_ (by first | exact Nat.le_refl _ | omega | (simp; done) | (simp; omega)) _))⟩
      · go_ret
        exact ⟨ret_bool (off_no2 Hl.out hlt HP.out (by rw [← (HQ _).out]; assumption)), ext_ex (by repeat (first | exact Below.refl _ _ | assumption | refine bExt ?_ _ | refine bAlloc ?_ _ | refine bDrewN ?_ _ | refine bDrew ?_ | refine bSet ?_ (by first | exact Nat.le_refl _ | omega | (simp; done) | (simp; omega)) _))⟩
      · go_ret
        exact ⟨ret_bool (off_no3 Hl.out hlt HP.out ‹_›), ext_ex (by repeat (first | exact Below.refl _ _ | assumption | refine bExt ?_ _ | refine bAlloc ?_ _ | refine bDrewN ?_ _ | refine bDrew ?_ | refine bSet ?_ (by first | exact Nat.le_refl _ | omega | (simp; done) | (simp; omega)) _))⟩
      · go_ret
        have h3 : (!inB p.2.2 1 3) = true := by assumption
        exact ⟨ret_bool (off_no4 Hl.out hlt HP.out (by simpa using h3)), ext_ex (by repeat (first | exact Below.refl _ _ | assumption | refine bExt ?_ _ | refine bAlloc ?_ _ | refine bDrewN ?_ _ | refine bDrew ?_ | refine bSet ?_ (by first | exact Nat.le_refl _ | omega | (simp; done) | (simp; omega)) _))⟩
      · have h3 : (!inB p.2.2 1 3) = false := by assumption
        have hyes := off_yes HP.out ‹_› (by rw [← (HQ _).out]; assumption) ‹_› (by simpa using h3)
        go_roundw
        case rel => exact ⟨k + 1, A', c', y, by omega, by go_num, rfl, rfl, by rw [HT.out, HP.out, List.map_append, HM.out]; exact ho', off_more hok hyes⟩
        case measure => simp [intOf]; omega
    · have Hfin := Lib.hid (show offsB l = decide (n ≤ 24) by rw [offsB_end (fun i hi => (hok i (by rw [Hl.out] at hi; omega)).out), Hl.out])
      go_wp2
      go_ret
      exact ⟨ret_bool (by rw [Hfin.out]; exact decide_eq_decide.2 (by omega)), _, rfl⟩
theorem isSkater_any (a : Int) (w : World) :
    Calls Try.prog 135 #[.int .i64 a] w fun e w' => e = .returned (.bool (inB a 1 999)) ∧ w = w' := by
  go_enter Try.func135, Try.ntmps135
  go_wp2_with (go_at_call 95; ((with_reducible refine (within_any _ _ _ _).mono ?_); rintro e w' ⟨rfl, rfl⟩))
  go_ret
  exact ⟨rfl, rfl⟩
theorem sameOfficial_any (a b c x : Int) (g : Nat) (w : World) (hg : w.cell? ⟨g, 0, none⟩ = some (.int .i64 x)) (hz : g < w.heap.size) :
    Calls Try.prog 198 #[.agg #[.int .i64 a, .int .i64 b, .int .i64 c], .pointer (some ⟨g, 0, none⟩)] w fun e w' => e = .returned (.bool (a == x)) ∧ ∃ x, w' = ext w x := by
  go_enter Try.func198, Try.ntmps198
  go_wp2
  go_ret
  exact ⟨rfl, ext_ex (by repeat (first | exact Below.refl _ _ | assumption | refine bExt ?_ _ | refine bAlloc ?_ _ | refine bDrewN ?_ _ | refine bDrew ?_ | refine bSet ?_ (by first | exact Nat.le_refl _ | omega | (simp; done) | (simp; omega)) _))⟩
def IdxO (w : World) (b : Bool) (e : Ending) (w' : World) : Prop := ∃ (i : Int) (x : World), e = .returned (.int .i64 i) ∧ w' = ext w x ∧ decide (0 ≤ i) = b
set_option maxHeartbeats 400000 in
theorem indexOfficial_any (w : World) (A : Option Addr) (n c : Nat) (l : List T3) (x : Int) (g : Nat) (ha : Rd3 w A n l) (hn : n ≤ 1099511627776) (hg : w.cell? ⟨g, 0, none⟩ = some (.int .i64 x)) (hz : g < w.heap.size) :
    Calls Try.prog 205 #[.slice A n c, .func (.func 198) #[] #[.pointer (some ⟨g, 0, none⟩)]] w (IdxO w (metB l x)) := by
  have Hl := Lib.hid ha.len
  unfold metB
  go_enter Try.func205, Try.ntmps205
  go_wp2
  go_loopw [5, 8] (fun _ i wr => ∃ (k : Nat) (y : World), k ≤ n ∧ i = .int .i64 k ∧ wr = ext w y ∧ Hid ((l.take k).any (fun y => y.1 == x) = false)) (fun _ i _ => n - (intOf i).toNat)
  case atStart => exact ⟨0, _, by omega, rfl, ext_self w, rfl⟩
  case round =>
    obtain ⟨k, y, hk, rfl, rfl, HT⟩ := hrel
    by_cases hlt : k < n
    · obtain ⟨b, off, rfl, hb, hc0, hc1, hc2⟩ := ha.at_ k hlt
      go_wp2_with (go_at_call 198; ((with_reducible refine (sameOfficial_any _ _ _ x g _ (by simp [go_sem, hg, hz]) (by simp [go_sem, hz])).mono ?_); rintro e w' ⟨rfl, z, rfl⟩))
      · go_ret
        exact ⟨k, _, rfl, (ext_ex (by repeat (first | exact Below.refl _ _ | assumption | refine bExt ?_ _ | refine bAlloc ?_ _ | refine bDrewN ?_ _ | refine bDrew ?_ | refine bSet ?_ (by first | exact Nat.le_refl _ | omega | (simp; done) | (simp; omega)) _))).choose_spec, by rw [any_hit z3 (by rw [Hl.out]; exact hlt) ‹_›]; simp⟩
      · go_roundw
        case rel => exact ⟨k + 1, _, by omega, by go_num, (ext_ex (by repeat (first | exact Below.refl _ _ | assumption | refine bExt ?_ _ | refine bAlloc ?_ _ | refine bDrewN ?_ _ | refine bDrew ?_ | refine bSet ?_ (by first | exact Nat.le_refl _ | omega | (simp; done) | (simp; omega)) _))).choose_spec, any_step z3 (by rw [Hl.out]; exact hlt) HT.out ‹_›⟩
        case measure => simp [intOf]; omega
    · have Hend := Lib.hid (any_end HT.out (by rw [Hl.out]; omega))
      go_wp2
      go_ret
      exact ⟨-1, _, rfl, rfl, by rw [Hend.out]; rfl⟩
theorem containsOfficial_any (w : World) (A : Option Addr) (n c : Nat) (l : List T3) (x : Int) (g : Nat) (ha : Rd3 w A n l) (hn : n ≤ 1099511627776) (hg : w.cell? ⟨g, 0, none⟩ = some (.int .i64 x)) (hz : g < w.heap.size) :
    Calls Try.prog 197 #[.slice A n c, .func (.func 198) #[] #[.pointer (some ⟨g, 0, none⟩)]] w fun e w' => e = .returned (.bool (metB l x)) ∧ ∃ x, w' = ext w x := by
  go_enter Try.func197, Try.ntmps197
  go_wp2_with (go_at_call 205; ((with_reducible refine (indexOfficial_any _ _ _ _ _ x g ha hn hg hz).mono ?_); rintro e w' ⟨i, y, rfl, rfl, hi⟩))
  go_ret
  exact ⟨by simp_all, _, rfl⟩
set_option maxHeartbeats 1000000 in
theorem implAreOfficials_any (w : World) (A : Option Addr) (n c : Nat) (l : List T3) (ha : Rd3 w A n l) (hn : n ≤ 1099511627776) (hnc : n ≤ c) :
    Calls Try.prog 185 #[.slice A n c] w fun e w' => e = .returned (.bool (offsB l)) ∧ ∃ x, w' = ext w x := by
  have Hl := Lib.hid ha.len
  go_enter Try.func185, Try.ntmps185
  go_wp2
  go_loopw [3, 4, 7] (fun _ _ i wr => ∃ (k : Nat) (x : World), k ≤ n ∧ i = .int .i64 k ∧ wr = ext w x ∧ (∀ j, j < k → Hid (offOkAt l j = true))) (fun _ _ i _ => n - (intOf i).toNat)
  case atStart => exact ⟨0, _, by omega, rfl, ext_self w, fun j hj => by omega⟩
  case round =>
    obtain ⟨k, x, hk, rfl, rfl, hok⟩ := hrel
    by_cases hlt : k < n
    · have hat := ha.take_ k hk
      obtain ⟨b, off, rfl, hb, hc0, hc1, hc2⟩ := ha.at_ k hlt
      obtain ⟨p, hp⟩ : ∃ p, l[k]?.getD z3 = p := ⟨_, rfl⟩
      have HP := Lib.hid hp
      rw [hp] at hc0 hc1 hc2
      clear hp
      have hkb : k ≤ 1099511627776 := by omega
      go_wp2_with (first
        | (go_at_call 135; ((with_reducible refine (isSkater_any _ _).mono ?_); rintro e w' ⟨rfl, rfl⟩))
        | (go_at_call 95; ((with_reducible refine (within_any _ _ _ _).mono ?_); rintro e w' ⟨rfl, rfl⟩))
        | (go_at_call 197; ((with_reducible refine (containsOfficial_any _ _ _ _ (l.take k) p.1 (ext w x).heap.size (hat.below (bAlloc (ext_below _ _) _)) hkb (by simp [go_sem]) (by simp [go_sem])).mono ?_); rintro e w' ⟨rfl, z, rfl⟩)))
      · go_ret
        exact ⟨ret_bool (off_no1 Hl.out hlt HP.out ‹_›), ext_ex (by repeat (first | exact Below.refl _ _ | assumption | refine bExt ?_ _ | refine bAlloc ?_ _ | refine bDrewN ?_ _ | refine bDrew ?_ | refine bSet ?_ (by first | exact Nat.le_refl _ | omega | (simp; done) | (simp; omega)) _))⟩
      · go_ret
        exact ⟨ret_bool (off_no3 Hl.out hlt HP.out ‹_›), ext_ex (by repeat (first | exact Below.refl _ _ | assumption | refine bExt ?_ _ | refine bAlloc ?_ _ | refine bDrewN ?_ _ | refine bDrew ?_ | refine bSet ?_ (by first | exact Nat.le_refl _ | omega | (simp; done) | (simp; omega)) _))⟩
      · go_ret
        have h3 : (!inB p.2.2 1 3) = true := by assumption
        exact ⟨ret_bool (off_no4 Hl.out hlt HP.out (by simpa using h3)), ext_ex (by repeat (first | exact Below.refl _ _ | assumption | refine bExt ?_ _ | refine bAlloc ?_ _ | refine bDrewN ?_ _ | refine bDrew ?_ | refine bSet ?_ (by first | exact Nat.le_refl _ | omega | (simp; done) | (simp; omega)) _))⟩
      · go_ret
        exact ⟨ret_bool (off_no2 Hl.out hlt HP.out (by assumption)), ext_ex (by repeat (first | exact Below.refl _ _ | assumption | refine bExt ?_ _ | refine bAlloc ?_ _ | refine bDrewN ?_ _ | refine bDrew ?_ | refine bSet ?_ (by first | exact Nat.le_refl _ | omega | (simp; done) | (simp; omega)) _))⟩
      · have h3 : (!inB p.2.2 1 3) = false := by assumption
        have hyes := off_yes HP.out ‹_› (by assumption) ‹_› (by simpa using h3)
        go_roundw
        case rel => exact ⟨k + 1, _, by omega, by go_num, (ext_ex (by repeat (first | exact Below.refl _ _ | assumption | refine bExt ?_ _ | refine bAlloc ?_ _ | refine bDrewN ?_ _ | refine bDrew ?_ | refine bSet ?_ (by first | exact Nat.le_refl _ | omega | (simp; done) | (simp; omega)) _))).choose_spec, off_more hok hyes⟩
        case measure => simp [intOf]; omega
    · have Hfin := Lib.hid (show offsB l = decide (n ≤ 24) by rw [offsB_end (fun i hi => (hok i (by rw [Hl.out] at hi; omega)).out), Hl.out])
      go_wp2
      go_ret
      exact ⟨ret_bool (by rw [Hfin.out]; exact decide_eq_decide.2 (by omega)), _, rfl⟩
/-- Rising numbers in a range. -/
def risAt (l : List Int) (lo hi : Int) (i : Nat) : Bool := inB (l[i]?.getD 0) lo hi && (i == 0 || decide (l[i - 1]?.getD 0 < l[i]?.getD 0))
def risB (l : List Int) (lo hi : Int) : Bool := (List.range l.length).all (risAt l lo hi)
theorem risB_false {l : List Int} {lo hi : Int} {k n : Nat} (hl : l.length = n) (hk : k < n) (h : risAt l lo hi k = false) : false = risB l lo hi := by
  symm
  unfold risB
  rw [Bool.eq_false_iff]; intro hh
  have := List.all_eq_true.1 hh k (by simpa [hl] using hk)
  rw [h] at this; cases this
theorem risB_end {l : List Int} {lo hi : Int} {n : Nat} (hl : l.length = n) (h : ∀ i, i < n → Hid (risAt l lo hi i = true)) : true = risB l lo hi := by
  symm
  exact List.all_eq_true.2 fun i hi => h i (by simpa [hl] using hi)
theorem risB_at {l : List Int} {lo hi : Int} (h : risB l lo hi = true) (i : Nat) (hk : i < l.length) : risAt l lo hi i = true := List.all_eq_true.1 h i (by simpa using hk)
theorem ris_more {l : List Int} {lo hi : Int} {k : Nat} (hok : ∀ j, j < k → Hid (risAt l lo hi j = true)) (h : risAt l lo hi k = true) : ∀ j, j < k + 1 → Hid (risAt l lo hi j = true) := fun j hj => by
  by_cases e : j = k
  · subst e; exact h
  · exact hok j (by omega)
theorem risAt_0 {l : List Int} {lo hi x : Int} (hx : l[0]?.getD 0 = x) : risAt l lo hi 0 = inB x lo hi := by simp [risAt, hx]
theorem risAt_s {l : List Int} {lo hi x y : Int} {k : Nat} (hx : l[k + 1]?.getD 0 = x) (hy : l[k]?.getD 0 = y) : risAt l lo hi (k + 1) = (inB x lo hi && decide (y < x)) := by
  unfold risAt
  rw [hx, show k + 1 - 1 = k from rfl, hy]
  simp
set_option maxHeartbeats 1000000 in
theorem l1Rising_any (w : World) (A : Option Addr) (n c : Nat) (l : List Int) (lo hi : Int) (ha : RdI w A n l) (hn : n ≤ 1099511627776) :
    Calls Try.prog 182 #[.slice A n c, .int .i64 lo, .int .i64 hi] w fun e w' => e = .returned (.bool (risB l lo hi)) ∧ w = w' := by
  have Hl := Lib.hid ha.len
  go_enter Try.func182, Try.ntmps182
  go_wp2
  go_loop [11] (fun i => ∃ k : Nat, k ≤ n ∧ i = .int .i64 k ∧ (∀ j, j < k → Hid (risAt l lo hi j = true))) (fun i => n - (intOf i).toNat)
  case atStart => exact ⟨0, by omega, rfl, fun j hj => by omega⟩
  case round =>
    obtain ⟨k, hk, rfl, hok⟩ := hrel
    by_cases hlt : k < n
    · obtain ⟨b, off, rfl, hb, hc⟩ := ha.open_ (by omega)
      have hck := hc k hlt
      rw [List.getD_eq_getElem?_getD] at hck
      cases k with
      | zero =>
        rw [Nat.add_zero] at hck
        clear hc
        obtain ⟨x, hx⟩ : ∃ x, l[0]?.getD 0 = x := ⟨_, rfl⟩
        rw [hx] at hck
        have HA := Lib.hid (risAt_0 (lo := lo) (hi := hi) hx)
        clear hx
        cases hin : inB x lo hi
        · rw [hin] at HA
          go_wp2_with (go_at_call 98; ((with_reducible refine (l1In_any _ _ _ _).mono ?_); rintro e w' ⟨rfl, rfl⟩))
          go_ret
          exact ⟨ret_bool (risB_false Hl.out hlt HA.out), rfl⟩
        · rw [hin] at HA
          go_wp2_with (go_at_call 98; ((with_reducible refine (l1In_any _ _ _ _).mono ?_); rintro e w' ⟨rfl, rfl⟩))
          go_round
          case rel => exact ⟨1, by omega, by go_num, ris_more hok HA.out⟩
          case measure => simp [intOf]; omega
      | succ k =>
        have hcj := hc k (by omega)
        rw [List.getD_eq_getElem?_getD] at hcj
        clear hc
        obtain ⟨x, hx⟩ : ∃ x, l[k + 1]?.getD 0 = x := ⟨_, rfl⟩
        obtain ⟨y, hy⟩ : ∃ y, l[k]?.getD 0 = y := ⟨_, rfl⟩
        rw [hx] at hck
        rw [hy] at hcj
        have HA := Lib.hid (risAt_s (lo := lo) (hi := hi) hx hy)
        clear hx hy
        cases hin : inB x lo hi
        · rw [hin] at HA
          go_wp2_with (go_at_call 98; ((with_reducible refine (l1In_any _ _ _ _).mono ?_); rintro e w' ⟨rfl, rfl⟩))
          go_ret
          exact ⟨ret_bool (risB_false Hl.out hlt (by rw [HA.out]; rfl)), rfl⟩
        · rw [hin] at HA
          by_cases hxy : y < x
          · have Hxy := Lib.hid hxy
            have hnx : ¬ x ≤ y := by omega
            clear hxy
            go_wp2_with (go_at_call 98; ((with_reducible refine (l1In_any _ _ _ _).mono ?_); rintro e w' ⟨rfl, rfl⟩))
            go_round
            case rel => exact ⟨k + 1 + 1, by omega, by go_num, ris_more hok (by rw [HA.out]; simpa using Hxy.out)⟩
            case measure => simp [intOf]; omega
          · have Hxy := Lib.hid hxy
            have hnx : x ≤ y := by omega
            clear hxy
            go_wp2_with (go_at_call 98; ((with_reducible refine (l1In_any _ _ _ _).mono ?_); rintro e w' ⟨rfl, rfl⟩))
            go_ret
            exact ⟨ret_bool (risB_false Hl.out hlt (by rw [HA.out]; simpa using Hxy.out)), rfl⟩
    · have Hfin := Lib.hid (risB_end (lo := lo) (hi := hi) Hl.out (fun i hi => hok i (by omega)))
      go_wp2
      go_ret
      exact ⟨ret_bool Hfin.out, rfl⟩
set_option maxHeartbeats 1000000 in
theorem isIncreasing_any (w : World) (A : Option Addr) (n c : Nat) (l : List Int) (q : Int) (ha : RdI w A n l) (hn : n ≤ 1099511627776) (hq : 0 ≤ q) (hq2 : q ≤ 1099511627776) :
    Calls Try.prog 199 #[.slice A n c, .int .i64 q] w fun e w' => e = .returned (.bool (risB l 0 (q - 1))) ∧ w = w' := by
  have Hl := Lib.hid ha.len
  go_enter Try.func199, Try.ntmps199
  go_wp2
  go_loop [9] (fun i => ∃ k : Nat, k ≤ n ∧ i = .int .i64 k ∧ (∀ j, j < k → Hid (risAt l 0 (q - 1) j = true))) (fun i => n - (intOf i).toNat)
  case atStart => exact ⟨0, by omega, rfl, fun j hj => by omega⟩
  case round =>
    obtain ⟨k, hk, rfl, hok⟩ := hrel
    by_cases hlt : k < n
    · obtain ⟨b, off, rfl, hb, hc⟩ := ha.open_ (by omega)
      have hck := hc k hlt
      rw [List.getD_eq_getElem?_getD] at hck
      cases k with
      | zero =>
        rw [Nat.add_zero] at hck
        clear hc
        obtain ⟨x, hx⟩ : ∃ x, l[0]?.getD 0 = x := ⟨_, rfl⟩
        rw [hx] at hck
        have HA := Lib.hid (risAt_0 (lo := 0) (hi := (q - 1)) hx)
        clear hx
        cases hin : inB x 0 (q - 1)
        · rw [hin] at HA
          go_wp2_with (go_at_call 95; ((with_reducible refine (within_any _ _ _ _).mono ?_); rintro e w' ⟨rfl, rfl⟩))
          go_ret
          exact ⟨ret_bool (risB_false Hl.out hlt HA.out), rfl⟩
        · rw [hin] at HA
          go_wp2_with (go_at_call 95; ((with_reducible refine (within_any _ _ _ _).mono ?_); rintro e w' ⟨rfl, rfl⟩))
          go_round
          case rel => exact ⟨1, by omega, by go_num, ris_more hok HA.out⟩
          case measure => simp [intOf]; omega
      | succ k =>
        have hcj := hc k (by omega)
        rw [List.getD_eq_getElem?_getD] at hcj
        clear hc
        obtain ⟨x, hx⟩ : ∃ x, l[k + 1]?.getD 0 = x := ⟨_, rfl⟩
        obtain ⟨y, hy⟩ : ∃ y, l[k]?.getD 0 = y := ⟨_, rfl⟩
        rw [hx] at hck
        rw [hy] at hcj
        have HA := Lib.hid (risAt_s (lo := 0) (hi := (q - 1)) hx hy)
        clear hx hy
        cases hin : inB x 0 (q - 1)
        · rw [hin] at HA
          go_wp2_with (go_at_call 95; ((with_reducible refine (within_any _ _ _ _).mono ?_); rintro e w' ⟨rfl, rfl⟩))
          go_ret
          exact ⟨ret_bool (risB_false Hl.out hlt (by rw [HA.out]; rfl)), rfl⟩
        · rw [hin] at HA
          by_cases hxy : y < x
          · have Hxy := Lib.hid hxy
            have hnx : ¬ x ≤ y := by omega
            clear hxy
            go_wp2_with (go_at_call 95; ((with_reducible refine (within_any _ _ _ _).mono ?_); rintro e w' ⟨rfl, rfl⟩))
            go_round
            case rel => exact ⟨k + 1 + 1, by omega, by go_num, ris_more hok (by rw [HA.out]; simpa using Hxy.out)⟩
            case measure => simp [intOf]; omega
          · have Hxy := Lib.hid hxy
            have hnx : x ≤ y := by omega
            clear hxy
            go_wp2_with (go_at_call 95; ((with_reducible refine (within_any _ _ _ _).mono ?_); rintro e w' ⟨rfl, rfl⟩))
            go_ret
            exact ⟨ret_bool (risB_false Hl.out hlt (by rw [HA.out]; simpa using Hxy.out)), rfl⟩
    · have Hfin := Lib.hid (risB_end (lo := 0) (hi := (q - 1)) Hl.out (fun i hi => hok i (by omega)))
      go_wp2
      go_ret
      exact ⟨ret_bool Hfin.out, rfl⟩
end Go.Proofs.Ytppcmnolkbobfaa
