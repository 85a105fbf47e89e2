/- Contracts: when a performance is valid, in the program and in the reference. Conditions: lengths below 2^40, strings below 2^63 bytes. -/
import Derived.Test.YtfmidngndddfiaaGreatDoorZPts
import Derived.Test.YtfmidngndddfiaaGreatDoorSlip
import Derived.Test.YtfmidngndddfiaaGreatDoorCode4
import Derived.Test.YtfmidngndddfiaaGreatDoorTextJ
set_option linter.unusedVariables false
set_option linter.unusedSimpArgs false
set_option maxRecDepth 100000
namespace Go.Proofs.YtfmidngndddfiaaGreatDoor
open Go.RowKit
def CodeR (w : World) (A : Option Addr) (n : Nat) (B : Option Addr) (m : Nat) (els : List El) (lims : List Int) : Prop :=
  RdEl w A n els ∧ RdI w B m lims ∧ n ≤ 1099511627776 ∧ m ≤ 1099511627776 ∧ ∀ x ∈ els, x.1.size ≤ 9223372036854775807
def ItsR (w : World) (I : Option Addr) (n2 c2 : Nat) (its : List It) : Prop := RdIt w I n2 its ∧ n2 ≤ 1099511627776 ∧ n2 ≤ c2 ∧ ∀ x ∈ its, itSmall x
theorem CodeR.below {w w' : World} {A : Option Addr} {n : Nat} {B : Option Addr} {m : Nat} {els : List El} {lims : List Int} (h : CodeR w A n B m els lims) (hb : Below w.heap.size w w') : CodeR w' A n B m els lims := ⟨h.1.below hb, h.2.1.below hb, h.2.2⟩
theorem ItsR.below {w w' : World} {I : Option Addr} {n2 c2 : Nat} {its : List It} (h : ItsR w I n2 c2 its) (hb : Below w.heap.size w w') : ItsR w' I n2 c2 its := ⟨h.1.below hb, h.2⟩
def progB (els : List El) (lims : List Int) (q0 q1 q2 q3 : Int) (its : List It) : Bool := codeB els lims q0 q1 q2 q3 && (itemsB its && knowB els its)
def mksB (gg kk : List (List Int)) (n : Nat) : Bool := marksB gg kk && decide (gg.length = n)
def judgedB (els : List El) (lims : List Int) (q0 q1 q2 q3 : Int) (its : List It) (gg kk : List (List Int)) : Bool := progB els lims q0 q1 q2 q3 its && mksB gg kk its.length
def perfB (els : List El) (lims : List Int) (q0 q1 q2 q3 : Int) (its : List It) (gg kk : List (List Int)) (s1 s2 s3 : Int) : Bool := judgedB els lims q0 q1 q2 q3 its gg kk && slipB s1 s2 s3
theorem mkGood_any (w : World) (GA KA : Option Addr) (gn gc kn kc : Nat) (gg kk : List (List Int)) (hm : RdMk w GA gn KA kn gg kk) (j : Nat) :
    Calls Tryz.prog 82 #[.agg #[.slice GA gn gc, .slice KA kn kc], .int .i64 j] w (fun e w' => e = .returned (.bool (mksB gg kk j)) ∧ ∃ y, w' = ext w y) := by
  have cm := fun W (h : Below w.heap.size w W) => mkAll_any W GA KA gn kn gc kc gg kk (hm.below h)
  have HV : Hid (mksB gg kk j = (marksB gg kk && decide (gn = j))) := by unfold Hid mksB; rw [hm.1.len]
  generalize marksB gg kk = b0 at *
  cases b0
  · go_enter Tryz.func82, Tryz.ntmps82
    go_wp2_with (first | (go_at_call 114; ((with_reducible refine (cm _ (by repeat (first | exact Below.refl _ _ | assumption | refine bExt ?_ _ | refine bAlloc ?_ _ | refine bDrewN ?_ _ | refine bDrew ?_ | refine bSet ?_ (by first | exact Nat.le_refl _ | omega | (simp; done) | (simp; omega)) _))).mono ?_); rintro e w' ⟨rfl, y, rfl⟩)))
    go_ret
    exact ⟨ret_bool (by rw [HV.out]; rfl), ext_ex (by repeat (first | exact Below.refl _ _ | assumption | refine bExt ?_ _ | refine bAlloc ?_ _ | refine bDrewN ?_ _ | refine bDrew ?_ | refine bSet ?_ (by first | exact Nat.le_refl _ | omega | (simp; done) | (simp; omega)) _))⟩
  · by_cases hj : gn = j
    · obtain rfl := hj
      go_enter Tryz.func82, Tryz.ntmps82
      go_wp2_with (first | (go_at_call 114; ((with_reducible refine (cm _ (by repeat (first | exact Below.refl _ _ | assumption | refine bExt ?_ _ | refine bAlloc ?_ _ | refine bDrewN ?_ _ | refine bDrew ?_ | refine bSet ?_ (by first | exact Nat.le_refl _ | omega | (simp; done) | (simp; omega)) _))).mono ?_); rintro e w' ⟨rfl, y, rfl⟩)))
      go_ret
      exact ⟨ret_bool (by rw [HV.out]; simp), ext_ex (by repeat (first | exact Below.refl _ _ | assumption | refine bExt ?_ _ | refine bAlloc ?_ _ | refine bDrewN ?_ _ | refine bDrew ?_ | refine bSet ?_ (by first | exact Nat.le_refl _ | omega | (simp; done) | (simp; omega)) _))⟩
    · have hjb : ((gn : Int) == (j : Int)) = false := by simp; omega
      go_enter Tryz.func82, Tryz.ntmps82
      go_wp2_with (first | (go_at_call 114; ((with_reducible refine (cm _ (by repeat (first | exact Below.refl _ _ | assumption | refine bExt ?_ _ | refine bAlloc ?_ _ | refine bDrewN ?_ _ | refine bDrew ?_ | refine bSet ?_ (by first | exact Nat.le_refl _ | omega | (simp; done) | (simp; omega)) _))).mono ?_); rintro e w' ⟨rfl, y, rfl⟩)))
      go_ret
      exact ⟨ret_bool (by rw [HV.out]; simp [hj]), ext_ex (by repeat (first | exact Below.refl _ _ | assumption | refine bExt ?_ _ | refine bAlloc ?_ _ | refine bDrewN ?_ _ | refine bDrew ?_ | refine bSet ?_ (by first | exact Nat.le_refl _ | omega | (simp; done) | (simp; omega)) _))⟩
theorem areMarks_any (w : World) (GA KA : Option Addr) (gn gc kn kc : Nat) (gg kk : List (List Int)) (hm : RdMk w GA gn KA kn gg kk) (j : Nat) :
    Calls Tryz.prog 123 #[.agg #[.slice GA gn gc, .slice KA kn kc], .int .i64 j] w (fun e w' => e = .returned (.bool (mksB gg kk j)) ∧ ∃ y, w' = ext w y) := by
  have cm := fun W (h : Below w.heap.size w W) => isMarks_any W GA KA gn kn gc kc gg kk (hm.below h)
  have HV : Hid (mksB gg kk j = (marksB gg kk && decide (gn = j))) := by unfold Hid mksB; rw [hm.1.len]
  generalize marksB gg kk = b0 at *
  cases b0
  · go_enter Tryz.func123, Tryz.ntmps123
    go_wp2_with (first | (go_at_call 110; ((with_reducible refine (cm _ (by repeat (first | exact Below.refl _ _ | assumption | refine bExt ?_ _ | refine bAlloc ?_ _ | refine bDrewN ?_ _ | refine bDrew ?_ | refine bSet ?_ (by first | exact Nat.le_refl _ | omega | (simp; done) | (simp; omega)) _))).mono ?_); rintro e w' ⟨rfl, y, rfl⟩)))
    go_ret
    exact ⟨ret_bool (by rw [HV.out]; rfl), ext_ex (by repeat (first | exact Below.refl _ _ | assumption | refine bExt ?_ _ | refine bAlloc ?_ _ | refine bDrewN ?_ _ | refine bDrew ?_ | refine bSet ?_ (by first | exact Nat.le_refl _ | omega | (simp; done) | (simp; omega)) _))⟩
  · by_cases hj : gn = j
    · obtain rfl := hj
      go_enter Tryz.func123, Tryz.ntmps123
      go_wp2_with (first | (go_at_call 110; ((with_reducible refine (cm _ (by repeat (first | exact Below.refl _ _ | assumption | refine bExt ?_ _ | refine bAlloc ?_ _ | refine bDrewN ?_ _ | refine bDrew ?_ | refine bSet ?_ (by first | exact Nat.le_refl _ | omega | (simp; done) | (simp; omega)) _))).mono ?_); rintro e w' ⟨rfl, y, rfl⟩)))
      go_ret
      exact ⟨ret_bool (by rw [HV.out]; simp), ext_ex (by repeat (first | exact Below.refl _ _ | assumption | refine bExt ?_ _ | refine bAlloc ?_ _ | refine bDrewN ?_ _ | refine bDrew ?_ | refine bSet ?_ (by first | exact Nat.le_refl _ | omega | (simp; done) | (simp; omega)) _))⟩
    · have hjb : ((gn : Int) == (j : Int)) = false := by simp; omega
      go_enter Tryz.func123, Tryz.ntmps123
      go_wp2_with (first | (go_at_call 110; ((with_reducible refine (cm _ (by repeat (first | exact Below.refl _ _ | assumption | refine bExt ?_ _ | refine bAlloc ?_ _ | refine bDrewN ?_ _ | refine bDrew ?_ | refine bSet ?_ (by first | exact Nat.le_refl _ | omega | (simp; done) | (simp; omega)) _))).mono ?_); rintro e w' ⟨rfl, y, rfl⟩)))
      go_ret
      exact ⟨ret_bool (by rw [HV.out]; simp [hj]), ext_ex (by repeat (first | exact Below.refl _ _ | assumption | refine bExt ?_ _ | refine bAlloc ?_ _ | refine bDrewN ?_ _ | refine bDrew ?_ | refine bSet ?_ (by first | exact Nat.le_refl _ | omega | (simp; done) | (simp; omega)) _))⟩
theorem bsGood_any (w : World) (A B : Option Addr) (n m c d : Nat) (els : List El) (lims : List Int) (q0 q1 q2 q3 : Int) (hc : CodeR w A n B m els lims) (I : Option Addr) (n2 c2 : Nat) (its : List It) (hi : ItsR w I n2 c2 its) :
    Calls Tryz.prog 81 #[.agg #[.slice A n c, .slice B m d, .int .i64 q0, .int .i64 q1, .int .i64 q2, .int .i64 q3], .slice I n2 c2] w (fun e w' => e = .returned (.bool (progB els lims q0 q1 q2 q3 its)) ∧ ∃ y, w' = ext w y) := by
  have cc := fun W (h : Below w.heap.size w W) => cdGood_any W A B n m c d els lims q0 q1 q2 q3 (hc.1.below h) (hc.2.1.below h) hc.2.2.1 hc.2.2.2.1 hc.2.2.2.2
  have ci := fun W (h : Below w.heap.size w W) => itList_any W I n2 c2 its (hi.1.below h) hi.2.1 hi.2.2.2
  have ck := fun W (h : Below w.heap.size w W) => bsKnows_any W A B n m c d els q0 q1 q2 q3 I n2 c2 its (hc.1.below h) hc.2.2.1 (hi.1.below h) hi.2.1 hi.2.2.2
  have HV : Hid (progB els lims q0 q1 q2 q3 its = (codeB els lims q0 q1 q2 q3 && (itemsB its && knowB els its))) := rfl
  clear hc hi
  generalize codeB els lims q0 q1 q2 q3 = b0 at *
  generalize itemsB its = b1 at *
  generalize knowB els its = b2 at *
  cases b0
  · go_enter Tryz.func81, Tryz.ntmps81
    go_wp2_with (first | (go_at_call 111; ((with_reducible refine (cc _ (by repeat (first | exact Below.refl _ _ | assumption | refine bExt ?_ _ | refine bAlloc ?_ _ | refine bDrewN ?_ _ | refine bDrew ?_ | refine bSet ?_ (by first | exact Nat.le_refl _ | omega | (simp; done) | (simp; omega)) _))).mono ?_); rintro e w' ⟨rfl, y, rfl⟩)) | (go_at_call 112; ((with_reducible refine (ci _ (by repeat (first | exact Below.refl _ _ | assumption | refine bExt ?_ _ | refine bAlloc ?_ _ | refine bDrewN ?_ _ | refine bDrew ?_ | refine bSet ?_ (by first | exact Nat.le_refl _ | omega | (simp; done) | (simp; omega)) _))).mono ?_); rintro e w' ⟨rfl, y, rfl⟩)) | (go_at_call 113; ((with_reducible refine (ck _ (by repeat (first | exact Below.refl _ _ | assumption | refine bExt ?_ _ | refine bAlloc ?_ _ | refine bDrewN ?_ _ | refine bDrew ?_ | refine bSet ?_ (by first | exact Nat.le_refl _ | omega | (simp; done) | (simp; omega)) _))).mono ?_); rintro e w' ⟨rfl, y, rfl⟩)))
    go_ret
    exact ⟨ret_bool (by rw [HV.out]; rfl), ext_ex (by repeat (first | exact Below.refl _ _ | assumption | refine bExt ?_ _ | refine bAlloc ?_ _ | refine bDrewN ?_ _ | refine bDrew ?_ | refine bSet ?_ (by first | exact Nat.le_refl _ | omega | (simp; done) | (simp; omega)) _))⟩
  · cases b1
    · go_enter Tryz.func81, Tryz.ntmps81
      go_wp2_with (first | (go_at_call 111; ((with_reducible refine (cc _ (by repeat (first | exact Below.refl _ _ | assumption | refine bExt ?_ _ | refine bAlloc ?_ _ | refine bDrewN ?_ _ | refine bDrew ?_ | refine bSet ?_ (by first | exact Nat.le_refl _ | omega | (simp; done) | (simp; omega)) _))).mono ?_); rintro e w' ⟨rfl, y, rfl⟩)) | (go_at_call 112; ((with_reducible refine (ci _ (by repeat (first | exact Below.refl _ _ | assumption | refine bExt ?_ _ | refine bAlloc ?_ _ | refine bDrewN ?_ _ | refine bDrew ?_ | refine bSet ?_ (by first | exact Nat.le_refl _ | omega | (simp; done) | (simp; omega)) _))).mono ?_); rintro e w' ⟨rfl, y, rfl⟩)) | (go_at_call 113; ((with_reducible refine (ck _ (by repeat (first | exact Below.refl _ _ | assumption | refine bExt ?_ _ | refine bAlloc ?_ _ | refine bDrewN ?_ _ | refine bDrew ?_ | refine bSet ?_ (by first | exact Nat.le_refl _ | omega | (simp; done) | (simp; omega)) _))).mono ?_); rintro e w' ⟨rfl, y, rfl⟩)))
      go_ret
      exact ⟨ret_bool (by rw [HV.out]; rfl), ext_ex (by repeat (first | exact Below.refl _ _ | assumption | refine bExt ?_ _ | refine bAlloc ?_ _ | refine bDrewN ?_ _ | refine bDrew ?_ | refine bSet ?_ (by first | exact Nat.le_refl _ | omega | (simp; done) | (simp; omega)) _))⟩
    · go_enter Tryz.func81, Tryz.ntmps81
      go_wp2_with (first | (go_at_call 111; ((with_reducible refine (cc _ (by repeat (first | exact Below.refl _ _ | assumption | refine bExt ?_ _ | refine bAlloc ?_ _ | refine bDrewN ?_ _ | refine bDrew ?_ | refine bSet ?_ (by first | exact Nat.le_refl _ | omega | (simp; done) | (simp; omega)) _))).mono ?_); rintro e w' ⟨rfl, y, rfl⟩)) | (go_at_call 112; ((with_reducible refine (ci _ (by repeat (first | exact Below.refl _ _ | assumption | refine bExt ?_ _ | refine bAlloc ?_ _ | refine bDrewN ?_ _ | refine bDrew ?_ | refine bSet ?_ (by first | exact Nat.le_refl _ | omega | (simp; done) | (simp; omega)) _))).mono ?_); rintro e w' ⟨rfl, y, rfl⟩)) | (go_at_call 113; ((with_reducible refine (ck _ (by repeat (first | exact Below.refl _ _ | assumption | refine bExt ?_ _ | refine bAlloc ?_ _ | refine bDrewN ?_ _ | refine bDrew ?_ | refine bSet ?_ (by first | exact Nat.le_refl _ | omega | (simp; done) | (simp; omega)) _))).mono ?_); rintro e w' ⟨rfl, y, rfl⟩)))
      go_ret
      exact ⟨ret_bool (by rw [HV.out]; rfl), ext_ex (by repeat (first | exact Below.refl _ _ | assumption | refine bExt ?_ _ | refine bAlloc ?_ _ | refine bDrewN ?_ _ | refine bDrew ?_ | refine bSet ?_ (by first | exact Nat.le_refl _ | omega | (simp; done) | (simp; omega)) _))⟩
theorem elGood_any (w : World) (A B : Option Addr) (n m c d : Nat) (els : List El) (lims : List Int) (q0 q1 q2 q3 : Int) (hc : CodeR w A n B m els lims) (I : Option Addr) (n2 c2 : Nat) (its : List It) (hi : ItsR w I n2 c2 its) (GA KA : Option Addr) (gn gc kn kc : Nat) (gg kk : List (List Int)) (hm : RdMk w GA gn KA kn gg kk) :
    Calls Tryz.prog 49 #[.agg #[.slice A n c, .slice B m d, .int .i64 q0, .int .i64 q1, .int .i64 q2, .int .i64 q3], .slice I n2 c2, .agg #[.slice GA gn gc, .slice KA kn kc]] w (fun e w' => e = .returned (.bool (judgedB els lims q0 q1 q2 q3 its gg kk)) ∧ ∃ y, w' = ext w y) := by
  have cb := fun W (h : Below w.heap.size w W) => bsGood_any W A B n m c d els lims q0 q1 q2 q3 (hc.below h) I n2 c2 its (hi.below h)
  have cm := fun W (h : Below w.heap.size w W) => mkGood_any W GA KA gn gc kn kc gg kk (hm.below h) n2
  have HV : Hid (judgedB els lims q0 q1 q2 q3 its gg kk = (progB els lims q0 q1 q2 q3 its && mksB gg kk n2)) := by unfold Hid judgedB; rw [hi.1.len]
  clear hc hi hm
  generalize progB els lims q0 q1 q2 q3 its = b0 at *
  generalize mksB gg kk n2 = b1 at *
  cases b0
  · go_enter Tryz.func49, Tryz.ntmps49
    go_wp2_with (first | (go_at_call 81; ((with_reducible refine (cb _ (by repeat (first | exact Below.refl _ _ | assumption | refine bExt ?_ _ | refine bAlloc ?_ _ | refine bDrewN ?_ _ | refine bDrew ?_ | refine bSet ?_ (by first | exact Nat.le_refl _ | omega | (simp; done) | (simp; omega)) _))).mono ?_); rintro e w' ⟨rfl, y, rfl⟩)) | (go_at_call 82; ((with_reducible refine (cm _ (by repeat (first | exact Below.refl _ _ | assumption | refine bExt ?_ _ | refine bAlloc ?_ _ | refine bDrewN ?_ _ | refine bDrew ?_ | refine bSet ?_ (by first | exact Nat.le_refl _ | omega | (simp; done) | (simp; omega)) _))).mono ?_); rintro e w' ⟨rfl, y, rfl⟩)))
    go_ret
    exact ⟨ret_bool (by rw [HV.out]; rfl), ext_ex (by repeat (first | exact Below.refl _ _ | assumption | refine bExt ?_ _ | refine bAlloc ?_ _ | refine bDrewN ?_ _ | refine bDrew ?_ | refine bSet ?_ (by first | exact Nat.le_refl _ | omega | (simp; done) | (simp; omega)) _))⟩
  · go_enter Tryz.func49, Tryz.ntmps49
    go_wp2_with (first | (go_at_call 81; ((with_reducible refine (cb _ (by repeat (first | exact Below.refl _ _ | assumption | refine bExt ?_ _ | refine bAlloc ?_ _ | refine bDrewN ?_ _ | refine bDrew ?_ | refine bSet ?_ (by first | exact Nat.le_refl _ | omega | (simp; done) | (simp; omega)) _))).mono ?_); rintro e w' ⟨rfl, y, rfl⟩)) | (go_at_call 82; ((with_reducible refine (cm _ (by repeat (first | exact Below.refl _ _ | assumption | refine bExt ?_ _ | refine bAlloc ?_ _ | refine bDrewN ?_ _ | refine bDrew ?_ | refine bSet ?_ (by first | exact Nat.le_refl _ | omega | (simp; done) | (simp; omega)) _))).mono ?_); rintro e w' ⟨rfl, y, rfl⟩)))
    go_ret
    exact ⟨ret_bool (by rw [HV.out]; rfl), ext_ex (by repeat (first | exact Below.refl _ _ | assumption | refine bExt ?_ _ | refine bAlloc ?_ _ | refine bDrewN ?_ _ | refine bDrew ?_ | refine bSet ?_ (by first | exact Nat.le_refl _ | omega | (simp; done) | (simp; omega)) _))⟩
theorem belong_any (w : World) (A B : Option Addr) (n m c d : Nat) (els : List El) (lims : List Int) (q0 q1 q2 q3 : Int) (hc : CodeR w A n B m els lims) (I : Option Addr) (n2 c2 : Nat) (its : List It) (hi : ItsR w I n2 c2 its) (GA KA : Option Addr) (gn gc kn kc : Nat) (gg kk : List (List Int)) (hm : RdMk w GA gn KA kn gg kk) :
    Calls Tryz.prog 90 #[.agg #[.slice A n c, .slice B m d, .int .i64 q0, .int .i64 q1, .int .i64 q2, .int .i64 q3], .slice I n2 c2, .agg #[.slice GA gn gc, .slice KA kn kc]] w (fun e w' => e = .returned (.bool (knowB els its && mksB gg kk n2)) ∧ ∃ y, w' = ext w y) := by
  have ck := fun W (h : Below w.heap.size w W) => isKnown_any W A B n m c d els q0 q1 q2 q3 I n2 c2 its (hc.1.below h) hc.2.2.1 (hi.1.below h) hi.2.1 hi.2.2.2
  have cm := fun W (h : Below w.heap.size w W) => areMarks_any W GA KA gn gc kn kc gg kk (hm.below h) n2
  have HV : Hid (true = true) := rfl
  clear hc hi hm
  generalize knowB els its = b0 at *
  generalize mksB gg kk n2 = b1 at *
  cases b0
  · go_enter Tryz.func90, Tryz.ntmps90
    go_wp2_with (first | (go_at_call 122; ((with_reducible refine (ck _ (by repeat (first | exact Below.refl _ _ | assumption | refine bExt ?_ _ | refine bAlloc ?_ _ | refine bDrewN ?_ _ | refine bDrew ?_ | refine bSet ?_ (by first | exact Nat.le_refl _ | omega | (simp; done) | (simp; omega)) _))).mono ?_); rintro e w' ⟨rfl, y, rfl⟩)) | (go_at_call 123; ((with_reducible refine (cm _ (by repeat (first | exact Below.refl _ _ | assumption | refine bExt ?_ _ | refine bAlloc ?_ _ | refine bDrewN ?_ _ | refine bDrew ?_ | refine bSet ?_ (by first | exact Nat.le_refl _ | omega | (simp; done) | (simp; omega)) _))).mono ?_); rintro e w' ⟨rfl, y, rfl⟩)))
    go_ret
    exact ⟨ret_bool (by rfl), ext_ex (by repeat (first | exact Below.refl _ _ | assumption | refine bExt ?_ _ | refine bAlloc ?_ _ | refine bDrewN ?_ _ | refine bDrew ?_ | refine bSet ?_ (by first | exact Nat.le_refl _ | omega | (simp; done) | (simp; omega)) _))⟩
  · go_enter Tryz.func90, Tryz.ntmps90
    go_wp2_with (first | (go_at_call 122; ((with_reducible refine (ck _ (by repeat (first | exact Below.refl _ _ | assumption | refine bExt ?_ _ | refine bAlloc ?_ _ | refine bDrewN ?_ _ | refine bDrew ?_ | refine bSet ?_ (by first | exact Nat.le_refl _ | omega | (simp; done) | (simp; omega)) _))).mono ?_); rintro e w' ⟨rfl, y, rfl⟩)) | (go_at_call 123; ((with_reducible refine (cm _ (by repeat (first | exact Below.refl _ _ | assumption | refine bExt ?_ _ | refine bAlloc ?_ _ | refine bDrewN ?_ _ | refine bDrew ?_ | refine bSet ?_ (by first | exact Nat.le_refl _ | omega | (simp; done) | (simp; omega)) _))).mono ?_); rintro e w' ⟨rfl, y, rfl⟩)))
    go_ret
    exact ⟨ret_bool (by rfl), ext_ex (by repeat (first | exact Below.refl _ _ | assumption | refine bExt ?_ _ | refine bAlloc ?_ _ | refine bDrewN ?_ _ | refine bDrew ?_ | refine bSet ?_ (by first | exact Nat.le_refl _ | omega | (simp; done) | (simp; omega)) _))⟩
theorem areJudged_any (w : World) (A B : Option Addr) (n m c d : Nat) (els : List El) (lims : List Int) (q0 q1 q2 q3 : Int) (hc : CodeR w A n B m els lims) (I : Option Addr) (n2 c2 : Nat) (its : List It) (hi : ItsR w I n2 c2 its) (GA KA : Option Addr) (gn gc kn kc : Nat) (gg kk : List (List Int)) (hm : RdMk w GA gn KA kn gg kk) :
    Calls Tryz.prog 59 #[.agg #[.slice A n c, .slice B m d, .int .i64 q0, .int .i64 q1, .int .i64 q2, .int .i64 q3], .slice I n2 c2, .agg #[.slice GA gn gc, .slice KA kn kc]] w (fun e w' => e = .returned (.bool (judgedB els lims q0 q1 q2 q3 its gg kk)) ∧ ∃ y, w' = ext w y) := by
  have cc := fun W (h : Below w.heap.size w W) => isCode_any W A B n m c d els lims q0 q1 q2 q3 (hc.1.below h) (hc.2.1.below h) hc.2.2.1 hc.2.2.2.1 hc.2.2.2.2
  have ci := fun W (h : Below w.heap.size w W) => areItems_any W I n2 c2 its (hi.1.below h) hi.2.1 hi.2.2.2
  have ck := fun W (h : Below w.heap.size w W) => belong_any W A B n m c d els lims q0 q1 q2 q3 (hc.below h) I n2 c2 its (hi.below h) GA KA gn gc kn kc gg kk (hm.below h)
  have HV : Hid (judgedB els lims q0 q1 q2 q3 its gg kk = (codeB els lims q0 q1 q2 q3 && (itemsB its && (knowB els its && mksB gg kk n2)))) := by unfold Hid judgedB progB; rw [hi.1.len]; simp only [Bool.and_assoc]
  clear hc hi hm
  generalize codeB els lims q0 q1 q2 q3 = b0 at *
  generalize itemsB its = b1 at *
  generalize (knowB els its && mksB gg kk n2) = b2 at *
  cases b0
  · go_enter Tryz.func59, Tryz.ntmps59
    go_wp2_with (first | (go_at_call 88; ((with_reducible refine (cc _ (by repeat (first | exact Below.refl _ _ | assumption | refine bExt ?_ _ | refine bAlloc ?_ _ | refine bDrewN ?_ _ | refine bDrew ?_ | refine bSet ?_ (by first | exact Nat.le_refl _ | omega | (simp; done) | (simp; omega)) _))).mono ?_); rintro e w' ⟨rfl, y, rfl⟩)) | (go_at_call 89; ((with_reducible refine (ci _ (by repeat (first | exact Below.refl _ _ | assumption | refine bExt ?_ _ | refine bAlloc ?_ _ | refine bDrewN ?_ _ | refine bDrew ?_ | refine bSet ?_ (by first | exact Nat.le_refl _ | omega | (simp; done) | (simp; omega)) _))).mono ?_); rintro e w' ⟨rfl, y, rfl⟩)) | (go_at_call 90; ((with_reducible refine (ck _ (by repeat (first | exact Below.refl _ _ | assumption | refine bExt ?_ _ | refine bAlloc ?_ _ | refine bDrewN ?_ _ | refine bDrew ?_ | refine bSet ?_ (by first | exact Nat.le_refl _ | omega | (simp; done) | (simp; omega)) _))).mono ?_); rintro e w' ⟨rfl, y, rfl⟩)))
    go_ret
    exact ⟨ret_bool (by rw [HV.out]; rfl), ext_ex (by repeat (first | exact Below.refl _ _ | assumption | refine bExt ?_ _ | refine bAlloc ?_ _ | refine bDrewN ?_ _ | refine bDrew ?_ | refine bSet ?_ (by first | exact Nat.le_refl _ | omega | (simp; done) | (simp; omega)) _))⟩
  · cases b1
    · go_enter Tryz.func59, Tryz.ntmps59
      go_wp2_with (first | (go_at_call 88; ((with_reducible refine (cc _ (by repeat (first | exact Below.refl _ _ | assumption | refine bExt ?_ _ | refine bAlloc ?_ _ | refine bDrewN ?_ _ | refine bDrew ?_ | refine bSet ?_ (by first | exact Nat.le_refl _ | omega | (simp; done) | (simp; omega)) _))).mono ?_); rintro e w' ⟨rfl, y, rfl⟩)) | (go_at_call 89; ((with_reducible refine (ci _ (by repeat (first | exact Below.refl _ _ | assumption | refine bExt ?_ _ | refine bAlloc ?_ _ | refine bDrewN ?_ _ | refine bDrew ?_ | refine bSet ?_ (by first | exact Nat.le_refl _ | omega | (simp; done) | (simp; omega)) _))).mono ?_); rintro e w' ⟨rfl, y, rfl⟩)) | (go_at_call 90; ((with_reducible refine (ck _ (by repeat (first | exact Below.refl _ _ | assumption | refine bExt ?_ _ | refine bAlloc ?_ _ | refine bDrewN ?_ _ | refine bDrew ?_ | refine bSet ?_ (by first | exact Nat.le_refl _ | omega | (simp; done) | (simp; omega)) _))).mono ?_); rintro e w' ⟨rfl, y, rfl⟩)))
      go_ret
      exact ⟨ret_bool (by rw [HV.out]; rfl), ext_ex (by repeat (first | exact Below.refl _ _ | assumption | refine bExt ?_ _ | refine bAlloc ?_ _ | refine bDrewN ?_ _ | refine bDrew ?_ | refine bSet ?_ (by first | exact Nat.le_refl _ | omega | (simp; done) | (simp; omega)) _))⟩
    · go_enter Tryz.func59, Tryz.ntmps59
      go_wp2_with (first | (go_at_call 88; ((with_reducible refine (cc _ (by repeat (first | exact Below.refl _ _ | assumption | refine bExt ?_ _ | refine bAlloc ?_ _ | refine bDrewN ?_ _ | refine bDrew ?_ | refine bSet ?_ (by first | exact Nat.le_refl _ | omega | (simp; done) | (simp; omega)) _))).mono ?_); rintro e w' ⟨rfl, y, rfl⟩)) | (go_at_call 89; ((with_reducible refine (ci _ (by repeat (first | exact Below.refl _ _ | assumption | refine bExt ?_ _ | refine bAlloc ?_ _ | refine bDrewN ?_ _ | refine bDrew ?_ | refine bSet ?_ (by first | exact Nat.le_refl _ | omega | (simp; done) | (simp; omega)) _))).mono ?_); rintro e w' ⟨rfl, y, rfl⟩)) | (go_at_call 90; ((with_reducible refine (ck _ (by repeat (first | exact Below.refl _ _ | assumption | refine bExt ?_ _ | refine bAlloc ?_ _ | refine bDrewN ?_ _ | refine bDrew ?_ | refine bSet ?_ (by first | exact Nat.le_refl _ | omega | (simp; done) | (simp; omega)) _))).mono ?_); rintro e w' ⟨rfl, y, rfl⟩)))
      go_ret
      exact ⟨ret_bool (by rw [HV.out]; rfl), ext_ex (by repeat (first | exact Below.refl _ _ | assumption | refine bExt ?_ _ | refine bAlloc ?_ _ | refine bDrewN ?_ _ | refine bDrew ?_ | refine bSet ?_ (by first | exact Nat.le_refl _ | omega | (simp; done) | (simp; omega)) _))⟩
theorem sgGood_any (w : World) (A B : Option Addr) (n m c d : Nat) (els : List El) (lims : List Int) (q0 q1 q2 q3 : Int) (hc : CodeR w A n B m els lims) (I : Option Addr) (n2 c2 : Nat) (its : List It) (hi : ItsR w I n2 c2 its) (GA KA : Option Addr) (gn gc kn kc : Nat) (gg kk : List (List Int)) (hm : RdMk w GA gn KA kn gg kk) (s1 s2 s3 : Int) :
    Calls Tryz.prog 22 #[.agg #[.slice A n c, .slice B m d, .int .i64 q0, .int .i64 q1, .int .i64 q2, .int .i64 q3], .agg #[.slice I n2 c2, .slice GA gn gc, .slice KA kn kc, .int .i64 s1, .int .i64 s2, .int .i64 s3]] w (fun e w' => e = .returned (.bool (perfB els lims q0 q1 q2 q3 its gg kk s1 s2 s3)) ∧ ∃ y, w' = ext w y) := by
  have ck := fun W (h : Below w.heap.size w W) => elGood_any W A B n m c d els lims q0 q1 q2 q3 (hc.below h) I n2 c2 its (hi.below h) GA KA gn gc kn kc gg kk (hm.below h)
  have cs := fun W => dcGood_any s1 s2 s3 W
  have HV : Hid (perfB els lims q0 q1 q2 q3 its gg kk s1 s2 s3 = (judgedB els lims q0 q1 q2 q3 its gg kk && slipB s1 s2 s3)) := rfl
  clear hc hi hm
  generalize judgedB els lims q0 q1 q2 q3 its gg kk = b0 at *
  generalize slipB s1 s2 s3 = b1 at *
  cases b0
  · go_enter Tryz.func22, Tryz.ntmps22
    go_wp2_with (first | (go_at_call 49; ((with_reducible refine (ck _ (by repeat (first | exact Below.refl _ _ | assumption | refine bExt ?_ _ | refine bAlloc ?_ _ | refine bDrewN ?_ _ | refine bDrew ?_ | refine bSet ?_ (by first | exact Nat.le_refl _ | omega | (simp; done) | (simp; omega)) _))).mono ?_); rintro e w' ⟨rfl, y, rfl⟩)) | (go_at_call 50; ((with_reducible refine (cs _).mono ?_); rintro e w' ⟨rfl, y, rfl⟩)))
    go_ret
    exact ⟨ret_bool (by rw [HV.out]; rfl), ext_ex (by repeat (first | exact Below.refl _ _ | assumption | refine bExt ?_ _ | refine bAlloc ?_ _ | refine bDrewN ?_ _ | refine bDrew ?_ | refine bSet ?_ (by first | exact Nat.le_refl _ | omega | (simp; done) | (simp; omega)) _))⟩
  · go_enter Tryz.func22, Tryz.ntmps22
    go_wp2_with (first | (go_at_call 49; ((with_reducible refine (ck _ (by repeat (first | exact Below.refl _ _ | assumption | refine bExt ?_ _ | refine bAlloc ?_ _ | refine bDrewN ?_ _ | refine bDrew ?_ | refine bSet ?_ (by first | exact Nat.le_refl _ | omega | (simp; done) | (simp; omega)) _))).mono ?_); rintro e w' ⟨rfl, y, rfl⟩)) | (go_at_call 50; ((with_reducible refine (cs _).mono ?_); rintro e w' ⟨rfl, y, rfl⟩)))
    go_ret
    exact ⟨ret_bool (by rw [HV.out]; rfl), ext_ex (by repeat (first | exact Below.refl _ _ | assumption | refine bExt ?_ _ | refine bAlloc ?_ _ | refine bDrewN ?_ _ | refine bDrew ?_ | refine bSet ?_ (by first | exact Nat.le_refl _ | omega | (simp; done) | (simp; omega)) _))⟩
theorem isPerformance_any (w : World) (A B : Option Addr) (n m c d : Nat) (els : List El) (lims : List Int) (q0 q1 q2 q3 : Int) (hc : CodeR w A n B m els lims) (I : Option Addr) (n2 c2 : Nat) (its : List It) (hi : ItsR w I n2 c2 its) (GA KA : Option Addr) (gn gc kn kc : Nat) (gg kk : List (List Int)) (hm : RdMk w GA gn KA kn gg kk) (s1 s2 s3 : Int) :
    Calls Tryz.prog 30 #[.agg #[.slice A n c, .slice B m d, .int .i64 q0, .int .i64 q1, .int .i64 q2, .int .i64 q3], .agg #[.slice I n2 c2, .slice GA gn gc, .slice KA kn kc, .int .i64 s1, .int .i64 s2, .int .i64 s3]] w (fun e w' => e = .returned (.bool (perfB els lims q0 q1 q2 q3 its gg kk s1 s2 s3)) ∧ ∃ y, w' = ext w y) := by
  have ck := fun W (h : Below w.heap.size w W) => areJudged_any W A B n m c d els lims q0 q1 q2 q3 (hc.below h) I n2 c2 its (hi.below h) GA KA gn gc kn kc gg kk (hm.below h)
  have cs := fun W => areSlips_any s1 s2 s3 W
  have HV : Hid (perfB els lims q0 q1 q2 q3 its gg kk s1 s2 s3 = (judgedB els lims q0 q1 q2 q3 its gg kk && slipB s1 s2 s3)) := rfl
  clear hc hi hm
  generalize judgedB els lims q0 q1 q2 q3 its gg kk = b0 at *
  generalize slipB s1 s2 s3 = b1 at *
  cases b0
  · go_enter Tryz.func30, Tryz.ntmps30
    go_wp2_with (first | (go_at_call 59; ((with_reducible refine (ck _ (by repeat (first | exact Below.refl _ _ | assumption | refine bExt ?_ _ | refine bAlloc ?_ _ | refine bDrewN ?_ _ | refine bDrew ?_ | refine bSet ?_ (by first | exact Nat.le_refl _ | omega | (simp; done) | (simp; omega)) _))).mono ?_); rintro e w' ⟨rfl, y, rfl⟩)) | (go_at_call 60; ((with_reducible refine (cs _).mono ?_); rintro e w' ⟨rfl, y, rfl⟩)))
    go_ret
    exact ⟨ret_bool (by rw [HV.out]; rfl), ext_ex (by repeat (first | exact Below.refl _ _ | assumption | refine bExt ?_ _ | refine bAlloc ?_ _ | refine bDrewN ?_ _ | refine bDrew ?_ | refine bSet ?_ (by first | exact Nat.le_refl _ | omega | (simp; done) | (simp; omega)) _))⟩
  · go_enter Tryz.func30, Tryz.ntmps30
    go_wp2_with (first | (go_at_call 59; ((with_reducible refine (ck _ (by repeat (first | exact Below.refl _ _ | assumption | refine bExt ?_ _ | refine bAlloc ?_ _ | refine bDrewN ?_ _ | refine bDrew ?_ | refine bSet ?_ (by first | exact Nat.le_refl _ | omega | (simp; done) | (simp; omega)) _))).mono ?_); rintro e w' ⟨rfl, y, rfl⟩)) | (go_at_call 60; ((with_reducible refine (cs _).mono ?_); rintro e w' ⟨rfl, y, rfl⟩)))
    go_ret
    exact ⟨ret_bool (by rw [HV.out]; rfl), ext_ex (by repeat (first | exact Below.refl _ _ | assumption | refine bExt ?_ _ | refine bAlloc ?_ _ | refine bDrewN ?_ _ | refine bDrew ?_ | refine bSet ?_ (by first | exact Nat.le_refl _ | omega | (simp; done) | (simp; omega)) _))⟩
end Go.Proofs.YtfmidngndddfiaaGreatDoor
namespace Go.Proofs.YtfmidngndddfiaaGreatDoor
theorem name_size {s : ByteArray} (h : nameB s = true) : s.size ≤ 5 := by
  simp only [nameB, Bool.and_eq_true] at h
  have := inB_iff.1 h.2
  omega
theorem code_of {els : List El} {lims : List Int} {q0 q1 q2 q3 : Int} (h : codeB els lims q0 q1 q2 q3 = true) : CodeG els q0 q1 q2 ∧ (0 ≤ q3 ∧ q3 ≤ 500) ∧ els.length ≤ 24 := by
  simp only [codeB, Bool.and_eq_true] at h
  obtain ⟨he, hn, _, _, h0, h1, h2, h3⟩ := h
  have h0 := inB_iff.1 h0
  have h1 := inB_iff.1 h1
  have h2 := inB_iff.1 h2
  have h3 := inB_iff.1 h3
  have hn := inB_iff.1 hn
  refine ⟨⟨fun k hk => ?_, h0, h1, by omega, by omega⟩, h3, by omega⟩
  have := List.all_eq_true.1 he k (by simpa using hk)
  simp only [okElAt, elB, Bool.and_eq_true] at this
  have hb := inB_iff.1 this.1.2.2.2
  exact hb
theorem mkAt_mem {it : It} {j : Nat} (h : j < it.2.1.length) : mkAt it j ∈ it.2.1 := getD_mem 0 it.2.1 j h
theorem item_of {it : It} (h : itemB it = true) : (1 ≤ it.1.length ∧ it.1.length ≤ 3) ∧ it.2.1.length = it.1.length ∧ ItT it := by
  simp only [itemB, Bool.and_eq_true, decide_eq_true_eq] at h
  obtain ⟨hn, hl, hm, ha⟩ := h
  have hl := inB_iff.1 hl
  refine ⟨by omega, hm, fun j hj => ⟨?_, ?_⟩⟩
  · exact name_size (List.all_eq_true.1 hn _ (getD_mem ByteArray.empty it.1 j hj))
  · exact allB_of ha _ (mkAt_mem (by omega))
theorem items_of {its : List It} (h : itemsB its = true) : its.length ≤ 14 ∧ ∀ j, j < its.length → (1 ≤ (its[j]?.getD zIt).1.length ∧ (its[j]?.getD zIt).1.length ≤ 3) ∧ (its[j]?.getD zIt).2.1.length = (its[j]?.getD zIt).1.length ∧ ItT (its[j]?.getD zIt) := by
  simp only [itemsB, Bool.and_eq_true, decide_eq_true_eq] at h
  exact ⟨h.2, fun j hj => item_of (List.all_eq_true.1 h.1 _ (getD_mem zIt its j hj))⟩
theorem know_of {els : List El} {its : List It} (h : knowB els its = true) {j : Nat} (hj : j < its.length) : ∀ i, i < (its[j]?.getD zIt).1.length → 0 ≤ findE els (nmAt (its[j]?.getD zIt) i) := fun i hi => by
  have := List.all_eq_true.1 h _ (getD_mem zIt its j hj)
  have := List.all_eq_true.1 this _ (getD_mem ByteArray.empty (its[j]?.getD zIt).1 i hi)
  exact of_decide_eq_true this
/-- Plain facts of a valid performance. -/
structure PerfG (els : List El) (q0 q1 q2 q3 : Int) (its : List It) (gg kk : List (List Int)) (s1 s2 s3 : Int) : Prop where
  code : CodeG els q0 q1 q2
  fall : 0 ≤ q3 ∧ q3 ≤ 500
  itg : ItsG els its
  len : its.length ≤ 14
  glen : gg.length = its.length
  txt : ∀ j, j < its.length → ItT (its[j]?.getD zIt)
  grs : ∀ j, j < gg.length → GrG (gg[j]?.getD [])
  mks : marksB gg kk = true
  slip : slipB s1 s2 s3 = true
theorem perf_of {els : List El} {lims : List Int} {q0 q1 q2 q3 : Int} {its : List It} {gg kk : List (List Int)} {s1 s2 s3 : Int} (h : perfB els lims q0 q1 q2 q3 its gg kk s1 s2 s3 = true) : PerfG els q0 q1 q2 q3 its gg kk s1 s2 s3 := by
  simp only [perfB, judgedB, progB, mksB, Bool.and_eq_true, decide_eq_true_eq] at h
  obtain ⟨⟨⟨hc, hi, hk⟩, hm, hg⟩, hs⟩ := h
  have c := code_of hc
  have i := items_of hi
  have m := marksB_of hm
  refine ⟨c.1, c.2.1, fun j hj => ⟨(i.2 j hj).1, (i.2 j hj).2.1, fun x hx => know_of hk hj x hx⟩, i.1, hg, fun j hj => (i.2 j hj).2.2, fun j hj => ?_, hm, hs⟩
  have r := m.2.2.2 j hj
  exact ⟨by rw [r.1]; exact m.2.2.1, r.2⟩
end Go.Proofs.YtfmidngndddfiaaGreatDoor
