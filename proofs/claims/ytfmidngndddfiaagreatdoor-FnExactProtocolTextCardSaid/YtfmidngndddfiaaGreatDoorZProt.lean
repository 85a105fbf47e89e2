/- Contracts: ProtocolText, in the program and in the reference. Conditions: the tables. -/
import Derived.Test.YtfmidngndddfiaaGreatDoorZTxts
import Derived.Test.YtfmidngndddfiaaGreatDoorZTots
set_option linter.unusedVariables false
set_option linter.unusedSimpArgs false
set_option maxRecDepth 100000
namespace Go.Proofs.YtfmidngndddfiaaGreatDoor
open Go.RowKit
def proB (els : List El) (lims : List Int) (q0 q1 q2 q3 : Int) (its : List It) (gg kk : List (List Int)) (s1 s2 s3 skater factor : Int) : Bool := askB els lims q0 q1 q2 q3 its gg kk s1 s2 s3 factor && inB skater 1 999
def proO (els : List El) (lims : List Int) (q0 q1 q2 q3 : Int) (its : List It) (gg kk : List (List Int)) (s1 s2 s3 skater factor : Int) : ByteArray := if proB els lims q0 q1 q2 q3 its gg kk s1 s2 s3 skater factor then textV els q0 q1 q2 q3 its gg kk s1 s2 s3 skater factor else ⟨#[]⟩
theorem ptSkater_any (skater : Int) (w : World) : Calls Tryz.prog 42 #[.int .i64 skater] w fun e w' => e = .returned (.bool (inB skater 1 999)) ∧ w = w' := by
  have cw := fun W => l1In_any skater 1 999 W
  go_enter Tryz.func42, Tryz.ntmps42
  go_wp2_with ((go_at_call 23; ((with_reducible refine (cw _).mono ?_); rintro e w' ⟨rfl, rfl⟩)))
  go_ret
  exact ⟨rfl, rfl⟩
theorem isSkater_any (skater : Int) (w : World) : Calls Tryz.prog 44 #[.int .i64 skater] w fun e w' => e = .returned (.bool (inB skater 1 999)) ∧ w = w' := by
  have cw := fun W => within_any skater 1 999 W
  go_enter Tryz.func44, Tryz.ntmps44
  go_wp2_with ((go_at_call 31; ((with_reducible refine (cw _).mono ?_); rintro e w' ⟨rfl, rfl⟩)))
  go_ret
  exact ⟨rfl, rfl⟩
set_option maxHeartbeats 1000000 in
theorem specProtocolText_any (w : World) (A B : Option Addr) (n m c d : Nat) (els : List El) (lims : List Int) (q0 q1 q2 q3 : Int) (hc : CodeR w A n B m els lims) (I : Option Addr) (n2 c2 : Nat) (its : List It) (hi : ItsR w I n2 c2 its) (GA KA : Option Addr) (gn gc kn kc : Nat) (gg kk : List (List Int)) (hm : RdMk w GA gn KA kn gg kk) (s1 s2 s3 skater factor : Int) :
    Calls Tryz.prog 16 #[.agg #[.slice A n c, .slice B m d, .int .i64 q0, .int .i64 q1, .int .i64 q2, .int .i64 q3], .agg #[.slice I n2 c2, .slice GA gn gc, .slice KA kn kc, .int .i64 s1, .int .i64 s2, .int .i64 s3], .int .i64 skater, .int .i64 factor] w (RetSK w (proO els lims q0 q1 q2 q3 its gg kk s1 s2 s3 skater factor) (proB els lims q0 q1 q2 q3 its gg kk s1 s2 s3 skater factor)) := by
  have cg := fun W (h : Below w.heap.size w W) => sgAsked_any W A B n m c d els lims q0 q1 q2 q3 (hc.below h) I n2 c2 its (hi.below h) GA KA gn gc kn kc gg kk (hm.below h) s1 s2 s3 factor
  have cw := fun W => ptSkater_any skater W
  have HO : Hid (proO els lims q0 q1 q2 q3 its gg kk s1 s2 s3 skater factor = if proB els lims q0 q1 q2 q3 its gg kk s1 s2 s3 skater factor then textV els q0 q1 q2 q3 its gg kk s1 s2 s3 skater factor else ⟨#[]⟩) := rfl
  have HB : Hid (proB els lims q0 q1 q2 q3 its gg kk s1 s2 s3 skater factor = (askB els lims q0 q1 q2 q3 its gg kk s1 s2 s3 factor && inB skater 1 999)) := rfl
  cases hp : askB els lims q0 q1 q2 q3 its gg kk s1 s2 s3 factor
  · rw [hp] at cg HB
    have HO3 : Hid (proO els lims q0 q1 q2 q3 its gg kk s1 s2 s3 skater factor = ⟨#[]⟩) := by unfold Hid; rw [HO.out, HB.out]; rfl
    clear hp hc hi hm HO
    go_enter Tryz.func16, Tryz.ntmps16
    go_wp2_with (first | (go_at_call 38; ((with_reducible refine (cg _ (by repeat (first | exact Below.refl _ _ | assumption | refine bExt ?_ _ | refine bAlloc ?_ _ | refine bDrewN ?_ _ | refine bDrew ?_ | refine bSet ?_ (by first | exact Nat.le_refl _ | omega | (simp; done) | (simp; omega)) _))).mono ?_); rintro e w' ⟨rfl, y1, rfl⟩)) | (go_at_call 42; ((with_reducible refine (cw _).mono ?_); rintro e w' ⟨rfl, rfl⟩)))
    go_ret2
    exact RetSK.mk_ (by rw [HO3.out]) (by rw [HB.out]; rfl) (by repeat (first | exact Below.refl _ _ | assumption | refine bExt ?_ _ | refine bAlloc ?_ _ | refine bDrewN ?_ _ | refine bDrew ?_ | refine bSet ?_ (by first | exact Nat.le_refl _ | omega | (simp; done) | (simp; omega)) _))
  · cases hs : inB skater 1 999
    · rw [hp, hs] at HB
      rw [hp] at cg
      rw [hs] at cw
      have HO3 : Hid (proO els lims q0 q1 q2 q3 its gg kk s1 s2 s3 skater factor = ⟨#[]⟩) := by unfold Hid; rw [HO.out, HB.out]; rfl
      clear hp hs hc hi hm HO
      go_enter Tryz.func16, Tryz.ntmps16
      go_wp2_with (first | (go_at_call 38; ((with_reducible refine (cg _ (by repeat (first | exact Below.refl _ _ | assumption | refine bExt ?_ _ | refine bAlloc ?_ _ | refine bDrewN ?_ _ | refine bDrew ?_ | refine bSet ?_ (by first | exact Nat.le_refl _ | omega | (simp; done) | (simp; omega)) _))).mono ?_); rintro e w' ⟨rfl, y1, rfl⟩)) | (go_at_call 42; ((with_reducible refine (cw _).mono ?_); rintro e w' ⟨rfl, rfl⟩)))
      go_ret2
      exact RetSK.mk_ (by rw [HO3.out]) (by rw [HB.out]; rfl) (by repeat (first | exact Below.refl _ _ | assumption | refine bExt ?_ _ | refine bAlloc ?_ _ | refine bDrewN ?_ _ | refine bDrew ?_ | refine bSet ?_ (by first | exact Nat.le_refl _ | omega | (simp; done) | (simp; omega)) _))
    · have hP := ask_of hp
      have hsk := inB_iff.1 hs
      have hM : PP w A n els I n2 c2 its GA gn gg := ⟨⟨hc.1, hc.2.2.1⟩, ⟨hi.1, hi.2.2.1⟩, hm.1⟩
      have cl := fun W (h : Below w.heap.size w W) => ptText_any W A B n m c d els q0 q1 q2 q3 I n2 c2 its GA KA gn gc kn kc gg kk s1 s2 s3 (hM.below h) (hm.below h) hP.1 skater factor hsk hP.2
      rw [hp, hs] at HB
      rw [hp] at cg
      rw [hs] at cw
      have HO3 : Hid (proO els lims q0 q1 q2 q3 its gg kk s1 s2 s3 skater factor = textV els q0 q1 q2 q3 its gg kk s1 s2 s3 skater factor) := by unfold Hid; rw [HO.out, HB.out]; rfl
      clear hp hs hc hi hm HO hP hM hsk
      go_enter Tryz.func16, Tryz.ntmps16
      go_wp2_with (first | (go_at_call 38; ((with_reducible refine (cg _ (by repeat (first | exact Below.refl _ _ | assumption | refine bExt ?_ _ | refine bAlloc ?_ _ | refine bDrewN ?_ _ | refine bDrew ?_ | refine bSet ?_ (by first | exact Nat.le_refl _ | omega | (simp; done) | (simp; omega)) _))).mono ?_); rintro e w' ⟨rfl, y1, rfl⟩)) | (go_at_call 42; ((with_reducible refine (cw _).mono ?_); rintro e w' ⟨rfl, rfl⟩)) | (go_at_call 43; ((with_reducible refine (cl _ (by repeat (first | exact Below.refl _ _ | assumption | refine bExt ?_ _ | refine bAlloc ?_ _ | refine bDrewN ?_ _ | refine bDrew ?_ | refine bSet ?_ (by first | exact Nat.le_refl _ | omega | (simp; done) | (simp; omega)) _))).mono ?_); rintro e w' ⟨rfl, y2, rfl⟩)))
      go_ret2
      exact RetSK.mk_ (by rw [HO3.out]) (by rw [HB.out]; rfl) (by repeat (first | exact Below.refl _ _ | assumption | refine bExt ?_ _ | refine bAlloc ?_ _ | refine bDrewN ?_ _ | refine bDrew ?_ | refine bSet ?_ (by first | exact Nat.le_refl _ | omega | (simp; done) | (simp; omega)) _))
set_option maxHeartbeats 1000000 in
theorem implProtocolText_any (w : World) (A B : Option Addr) (n m c d : Nat) (els : List El) (lims : List Int) (q0 q1 q2 q3 : Int) (hc : CodeR w A n B m els lims) (I : Option Addr) (n2 c2 : Nat) (its : List It) (hi : ItsR w I n2 c2 its) (GA KA : Option Addr) (gn gc kn kc : Nat) (gg kk : List (List Int)) (hm : RdMk w GA gn KA kn gg kk) (s1 s2 s3 skater factor : Int) (hTab : Tab w) (hSg : Sgn w) :
    Calls Tryz.prog 17 #[.agg #[.slice A n c, .slice B m d, .int .i64 q0, .int .i64 q1, .int .i64 q2, .int .i64 q3], .agg #[.slice I n2 c2, .slice GA gn gc, .slice KA kn kc, .int .i64 s1, .int .i64 s2, .int .i64 s3], .int .i64 skater, .int .i64 factor] w (RetSK w (proO els lims q0 q1 q2 q3 its gg kk s1 s2 s3 skater factor) (proB els lims q0 q1 q2 q3 its gg kk s1 s2 s3 skater factor)) := by
  have cg := fun W (h : Below w.heap.size w W) => canScore_any W A B n m c d els lims q0 q1 q2 q3 (hc.below h) I n2 c2 its (hi.below h) GA KA gn gc kn kc gg kk (hm.below h) s1 s2 s3 factor
  have cw := fun W => isSkater_any skater W
  have HO : Hid (proO els lims q0 q1 q2 q3 its gg kk s1 s2 s3 skater factor = if proB els lims q0 q1 q2 q3 its gg kk s1 s2 s3 skater factor then textV els q0 q1 q2 q3 its gg kk s1 s2 s3 skater factor else ⟨#[]⟩) := rfl
  have HB : Hid (proB els lims q0 q1 q2 q3 its gg kk s1 s2 s3 skater factor = (askB els lims q0 q1 q2 q3 its gg kk s1 s2 s3 factor && inB skater 1 999)) := rfl
  cases hp : askB els lims q0 q1 q2 q3 its gg kk s1 s2 s3 factor
  · rw [hp] at cg HB
    have HO3 : Hid (proO els lims q0 q1 q2 q3 its gg kk s1 s2 s3 skater factor = ⟨#[]⟩) := by unfold Hid; rw [HO.out, HB.out]; rfl
    clear hp hc hi hm HO
    go_enter Tryz.func17, Tryz.ntmps17
    go_wp2_with (first | (go_at_call 40; ((with_reducible refine (cg _ (by repeat (first | exact Below.refl _ _ | assumption | refine bExt ?_ _ | refine bAlloc ?_ _ | refine bDrewN ?_ _ | refine bDrew ?_ | refine bSet ?_ (by first | exact Nat.le_refl _ | omega | (simp; done) | (simp; omega)) _))).mono ?_); rintro e w' ⟨rfl, y1, rfl⟩)) | (go_at_call 44; ((with_reducible refine (cw _).mono ?_); rintro e w' ⟨rfl, rfl⟩)))
    go_ret2
    exact RetSK.mk_ (by rw [HO3.out]) (by rw [HB.out]; rfl) (by repeat (first | exact Below.refl _ _ | assumption | refine bExt ?_ _ | refine bAlloc ?_ _ | refine bDrewN ?_ _ | refine bDrew ?_ | refine bSet ?_ (by first | exact Nat.le_refl _ | omega | (simp; done) | (simp; omega)) _))
  · cases hs : inB skater 1 999
    · rw [hp, hs] at HB
      rw [hp] at cg
      rw [hs] at cw
      have HO3 : Hid (proO els lims q0 q1 q2 q3 its gg kk s1 s2 s3 skater factor = ⟨#[]⟩) := by unfold Hid; rw [HO.out, HB.out]; rfl
      clear hp hs hc hi hm HO
      go_enter Tryz.func17, Tryz.ntmps17
      go_wp2_with (first | (go_at_call 40; ((with_reducible refine (cg _ (by repeat (first | exact Below.refl _ _ | assumption | refine bExt ?_ _ | refine bAlloc ?_ _ | refine bDrewN ?_ _ | refine bDrew ?_ | refine bSet ?_ (by first | exact Nat.le_refl _ | omega | (simp; done) | (simp; omega)) _))).mono ?_); rintro e w' ⟨rfl, y1, rfl⟩)) | (go_at_call 44; ((with_reducible refine (cw _).mono ?_); rintro e w' ⟨rfl, rfl⟩)))
      go_ret2
      exact RetSK.mk_ (by rw [HO3.out]) (by rw [HB.out]; rfl) (by repeat (first | exact Below.refl _ _ | assumption | refine bExt ?_ _ | refine bAlloc ?_ _ | refine bDrewN ?_ _ | refine bDrew ?_ | refine bSet ?_ (by first | exact Nat.le_refl _ | omega | (simp; done) | (simp; omega)) _))
    · have hP := ask_of hp
      have hsk := inB_iff.1 hs
      have hM : PP w A n els I n2 c2 its GA gn gg := ⟨⟨hc.1, hc.2.2.1⟩, ⟨hi.1, hi.2.2.1⟩, hm.1⟩
      have cl := fun W (h : Below w.heap.size w W) => protocolText_any W A B n m c d els q0 q1 q2 q3 I n2 c2 its GA KA gn gc kn kc gg kk s1 s2 s3 (hM.below h) (hm.below h) hP.1 (hTab.below h) (hSg.below h) skater factor hsk hP.2
      rw [hp, hs] at HB
      rw [hp] at cg
      rw [hs] at cw
      have HO3 : Hid (proO els lims q0 q1 q2 q3 its gg kk s1 s2 s3 skater factor = textV els q0 q1 q2 q3 its gg kk s1 s2 s3 skater factor) := by unfold Hid; rw [HO.out, HB.out]; rfl
      clear hp hs hc hi hm HO hP hM hsk
      go_enter Tryz.func17, Tryz.ntmps17
      go_wp2_with (first | (go_at_call 40; ((with_reducible refine (cg _ (by repeat (first | exact Below.refl _ _ | assumption | refine bExt ?_ _ | refine bAlloc ?_ _ | refine bDrewN ?_ _ | refine bDrew ?_ | refine bSet ?_ (by first | exact Nat.le_refl _ | omega | (simp; done) | (simp; omega)) _))).mono ?_); rintro e w' ⟨rfl, y1, rfl⟩)) | (go_at_call 44; ((with_reducible refine (cw _).mono ?_); rintro e w' ⟨rfl, rfl⟩)) | (go_at_call 45; ((with_reducible refine (cl _ (by repeat (first | exact Below.refl _ _ | assumption | refine bExt ?_ _ | refine bAlloc ?_ _ | refine bDrewN ?_ _ | refine bDrew ?_ | refine bSet ?_ (by first | exact Nat.le_refl _ | omega | (simp; done) | (simp; omega)) _))).mono ?_); rintro e w' ⟨rfl, y2, rfl⟩)))
      go_ret2
      exact RetSK.mk_ (by rw [HO3.out]) (by rw [HB.out]; rfl) (by repeat (first | exact Below.refl _ _ | assumption | refine bExt ?_ _ | refine bAlloc ?_ _ | refine bDrewN ?_ _ | refine bDrew ?_ | refine bSet ?_ (by first | exact Nat.le_refl _ | omega | (simp; done) | (simp; omega)) _))
end Go.Proofs.YtfmidngndddfiaaGreatDoor
