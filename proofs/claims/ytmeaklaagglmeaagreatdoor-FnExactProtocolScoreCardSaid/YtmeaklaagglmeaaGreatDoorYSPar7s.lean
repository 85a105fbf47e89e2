/- Contracts: ProtocolHolds, Renumbered, in the program. Conditions: strings below 2^20 bytes; the tables. -/
import Derived.Test.YtmeaklaagglmeaaGreatDoorYPar5s
set_option linter.unusedVariables false
set_option linter.unusedSimpArgs false
set_option maxRecDepth 100000
namespace Go.Proofs.YtmeaklaagglmeaaGreatDoor
open Go.RowKit
end Go.Proofs.YtmeaklaagglmeaaGreatDoor
namespace Go.Proofs.YtmeaklaagglmeaaGreatDoor
open Go.RowKit
theorem rd_good {els : List El} {lims : List Int} {q0 q1 q2 q3 : Int} {s : ByteArray} {v : PR} (h : rdP els lims q0 q1 q2 q3 s = some v) : proB els lims q0 q1 q2 q3 v.1 v.2.1.1 v.2.1.2 v.2.2.1.1 v.2.2.1.2.1 v.2.2.1.2.2 v.2.2.2.1 v.2.2.2.2 = true := by
 unfold rdP at h
 split at h
 ·
  have h2 := (accP_iff.1 h).2
  simp only [accB, Bool.and_eq_true] at h2
  exact h2.1
 ·
  cases h
end Go.Proofs.YtmeaklaagglmeaaGreatDoor
namespace Go.Proofs.YtmeaklaagglmeaaGreatDoor
open Go.RowKit
def scoreP (els : List El) (q0 q1 q2 q3 : Int) (its : List It) (gg kk : List (List Int)) (s1 s2 s3 factor : Int) : Int := (partsP els q0 q1 q2 q3 its gg kk s1 s2 s3 factor)[3]?.getD 0
def scoV (els : List El) (q0 q1 q2 q3 : Int) (o : Option PR) : Int := match o with
 | some v => scoreP els q0 q1 q2 q3 v.1 v.2.1.1 v.2.1.2 v.2.2.1.1 v.2.2.1.2.1 v.2.2.1.2.2 v.2.2.2.2
 | none => 0
set_option maxHeartbeats 1000000 in
theorem segmentScore_any (w : World) (A B : Option Addr) (n m c d : Nat) (els : List El) (q0 q1 q2 q3 : Int) (I : Option Addr) (n2 c2 : Nat) (its : List It) (GA KA : Option Addr) (gn gc kn kc : Nat) (gg kk : List (List Int)) (s1 s2 s3 : Int) (hM : PP w A n els I n2 c2 its GA gn gg) (hK : RdM w KA kn kk) (hP : PerfG els q0 q1 q2 q3 its gg kk s1 s2 s3) (factor : Int) (hfa : 10 ≤ factor ∧ factor ≤ 400) :
  Calls Tryz.prog 76 #[.agg #[.slice A n c, .slice B m d, .int .i64 q0, .int .i64 q1, .int .i64 q2, .int .i64 q3], .agg #[.slice I n2 c2, .slice GA gn gc, .slice KA kn kc, .int .i64 s1, .int .i64 s2, .int .i64 s3], .int .i64 factor] w fun e w' => e = .returned (.int .i64 (scoreP els q0 q1 q2 q3 its gg kk s1 s2 s3 factor)) ∧ ∃ x, w' = ext w x := by
 have cp := fun W (h : Below w.heap.size w W) => partsOf_any W A B n m c d els q0 q1 q2 q3 I n2 c2 its GA KA gn gc kn kc gg kk s1 s2 s3 (hM.below h) (hK.below h) hP factor hfa
 have hl : (partsP els q0 q1 q2 q3 its gg kk s1 s2 s3 factor).length = 4 := rfl
 have HS : Hid (scoreP els q0 q1 q2 q3 its gg kk s1 s2 s3 factor = (partsP els q0 q1 q2 q3 its gg kk s1 s2 s3 factor)[3]?.getD 0) := rfl
 generalize partsP els q0 q1 q2 q3 its gg kk s1 s2 s3 factor = l at *
 have HL := Lib.hid hl
 clear hM hK hP hl
 go_enter Tryz.func76, Tryz.ntmps76
 go_wp2_with ((go_at_call 139; ((with_reducible refine (cp _ (by with_reducible repeat first | exact Below.refl _ _ | assumption | refine bSetN ?_ (by omega) _ | refine bExt ?_ _ | refine bAlloc ?_ _ | refine bDrewN ?_ _ | refine bDrew ?_)).mono ?_); rintro e w' ⟨A1, n1, c1, x1, rfl, rfl, o1⟩; (obtain rfl : n1 = 4 := o1.len.symm.trans HL.out); (obtain ⟨g1, rfl, hg1, hg2⟩ := o1.form_ (by omega)); have k3 := o1.cell_ 3 (by omega))))
 go_ret
 exact ⟨ret_int (by rw [HS.out]), ext_ex (by with_reducible repeat first | exact Below.refl _ _ | assumption | refine bSetN ?_ (by omega) _ | refine bExt ?_ _ | refine bAlloc ?_ _ | refine bDrewN ?_ _ | refine bDrew ?_)⟩
set_option maxHeartbeats 1000000 in
theorem sgScore_any (w : World) (A B : Option Addr) (n m c d : Nat) (els : List El) (q0 q1 q2 q3 : Int) (I : Option Addr) (n2 c2 : Nat) (its : List It) (GA KA : Option Addr) (gn gc kn kc : Nat) (gg kk : List (List Int)) (s1 s2 s3 : Int) (hM : PP w A n els I n2 c2 its GA gn gg) (hK : RdM w KA kn kk) (hP : PerfG els q0 q1 q2 q3 its gg kk s1 s2 s3) (factor : Int) (hfa : 10 ≤ factor ∧ factor ≤ 400) :
  Calls Tryz.prog 77 #[.agg #[.slice A n c, .slice B m d, .int .i64 q0, .int .i64 q1, .int .i64 q2, .int .i64 q3], .agg #[.slice I n2 c2, .slice GA gn gc, .slice KA kn kc, .int .i64 s1, .int .i64 s2, .int .i64 s3], .int .i64 factor] w fun e w' => e = .returned (.int .i64 (scoreP els q0 q1 q2 q3 its gg kk s1 s2 s3 factor)) ∧ ∃ x, w' = ext w x := by
 have cp := fun W (h : Below w.heap.size w W) => sgParts_any W A B n m c d els q0 q1 q2 q3 I n2 c2 its GA KA gn gc kn kc gg kk s1 s2 s3 (hM.below h) (hK.below h) hP factor hfa
 have hl : (partsP els q0 q1 q2 q3 its gg kk s1 s2 s3 factor).length = 4 := rfl
 have HS : Hid (scoreP els q0 q1 q2 q3 its gg kk s1 s2 s3 factor = (partsP els q0 q1 q2 q3 its gg kk s1 s2 s3 factor)[3]?.getD 0) := rfl
 generalize partsP els q0 q1 q2 q3 its gg kk s1 s2 s3 factor = l at *
 have HL := Lib.hid hl
 clear hM hK hP hl
 go_enter Tryz.func77, Tryz.ntmps77
 go_wp2_with ((go_at_call 140; ((with_reducible refine (cp _ (by with_reducible repeat first | exact Below.refl _ _ | assumption | refine bSetN ?_ (by omega) _ | refine bExt ?_ _ | refine bAlloc ?_ _ | refine bDrewN ?_ _ | refine bDrew ?_)).mono ?_); rintro e w' ⟨A1, n1, c1, x1, rfl, rfl, o1⟩; (obtain rfl : n1 = 4 := o1.len.symm.trans HL.out); (obtain ⟨g1, rfl, hg1, hg2⟩ := o1.form_ (by omega)); have k3 := o1.cell_ 3 (by omega))))
 go_ret
 exact ⟨ret_int (by rw [HS.out]), ext_ex (by with_reducible repeat first | exact Below.refl _ _ | assumption | refine bSetN ?_ (by omega) _ | refine bExt ?_ _ | refine bAlloc ?_ _ | refine bDrewN ?_ _ | refine bDrew ?_)⟩
def RetNB (w : World) (a : Int) (b : Bool) (e : Ending) (w' : World) : Prop := e = .returned (.tuple #[.int .i64 a, .bool b]) ∧ ∃ x, w' = ext w x
theorem RetNB.mk_ {w W : World} {a a' : Int} {b b' : Bool} (ha : a' = a) (hb : b' = b) (h : Below w.heap.size w W) : RetNB w a b (.returned (.tuple #[.int .i64 a', .bool b'])) W := by
 subst ha hb; exact ⟨rfl, ext_ex h⟩
set_option maxHeartbeats 4000000 in
theorem implProtocolScore_any (w : World) (A B : Option Addr) (n m c d : Nat) (els : List El) (lims : List Int) (q0 q1 q2 q3 : Int) (hc : CodeR w A n B m els lims) (s : ByteArray) (hs : s.size ≤ 1048576) (hM : Mxl w) (hTab : Tab w) (hSg : Sgn w) :
  Calls Tryz.prog 23 #[.agg #[.slice A n c, .slice B m d, .int .i64 q0, .int .i64 q1, .int .i64 q2, .int .i64 q3], .string s] w (RetNB w (scoV els q0 q1 q2 q3 (rdP els lims q0 q1 q2 q3 s)) (rdP els lims q0 q1 q2 q3 s).isSome) := by
 have cr := fun W (h : Below w.heap.size w W) => implReadProtocol_any W A B n m c d els lims q0 q1 q2 q3 (hc.below h) s hs (hM.below h) (hTab.below h) (hSg.below h)
 have hgood := fun v => @rd_good els lims q0 q1 q2 q3 s v
 generalize rdP els lims q0 q1 q2 q3 s = o at *
 unfold RetRd at cr
 cases o with
 | none =>
  simp only [Option.isSome_none, Option.getD_none] at cr
  clear hM hTab hSg hc hgood
  go_enter Tryz.func23, Tryz.ntmps23
  go_wp2_with ((go_at_call 13; ((with_reducible refine (cr _ (by with_reducible repeat first | exact Below.refl _ _ | assumption | refine bSetN ?_ (by omega) _ | refine bExt ?_ _ | refine bAlloc ?_ _ | refine bDrewN ?_ _ | refine bDrew ?_)).mono ?_); rintro e w' ⟨I, n2, c2, GA, gn, gc, KA, kn, kc, x2, R, rfl, rfl, hF, hP⟩)))
  go_ret2
  exact RetNB.mk_ rfl rfl (by with_reducible repeat first | exact Below.refl _ _ | assumption | refine bSetN ?_ (by omega) _ | refine bExt ?_ _ | refine bAlloc ?_ _ | refine bDrewN ?_ _ | refine bDrew ?_)
 | some v =>
  obtain ⟨its, ⟨gg, kk⟩, ⟨s1, s2, s3⟩, sk, fa⟩ := v
  simp only [Option.isSome_some, Option.getD_some] at cr
  have hB := hgood _ rfl
  simp only at hB
  clear hgood
  have HV : Hid (scoV els q0 q1 q2 q3 (some (its, (gg, kk), (s1, s2, s3), sk, fa)) = scoreP els q0 q1 q2 q3 its gg kk s1 s2 s3 fa) := rfl
  obtain ⟨hit, hPG, hfa, hsk⟩ := pro_of hB
  have hB2 := hPG
  clear hB
  have ct := fun W (h1 : Below w.heap.size w W) (I : Option Addr) (n2 c2 : Nat) (GA : Option Addr) (gn gc : Nat) (KA : Option Addr) (kn kc : Nat) (x2 : World) (R : Fam) (b hi : Nat) (hb : Below (ext (w.alloc (.cells #[.slice A n c, .slice B m d, .int .i64 q0, .int .i64 q1, .int .i64 q2, .int .i64 q3] 39)) x2).heap.size (ext (w.alloc (.cells #[.slice A n c, .slice B m d, .int .i64 q0, .int .i64 q1, .int .i64 q2, .int .i64 q3] 39)) x2) W) (hF : Fo b hi (ext (w.alloc (.cells #[.slice A n c, .slice B m d, .int .i64 q0, .int .i64 q1, .int .i64 q2, .int .i64 q3] 39)) x2) R) (hP : PfF R I n2 c2 its GA gn gc gg KA kn kc kk) => segmentScore_any W A B n m c d els q0 q1 q2 q3 I n2 c2 its GA KA gn gc kn kc gg kk s1 s2 s3 ⟨⟨(hc.below h1).1, hc.2.2.1⟩, ⟨(hP.1.rd hF).below hb, hP.1.cap hF⟩, (hP.2.1.rd hF).below hb⟩ ((hP.2.2.rd hF).below hb) hB2 fa hfa
  clear hM hc
  go_enter Tryz.func23, Tryz.ntmps23
  go_wp2_with (first | (go_at_call 13; ((with_reducible refine (cr _ (by with_reducible repeat first | exact Below.refl _ _ | assumption | refine bSetN ?_ (by omega) _ | refine bExt ?_ _ | refine bAlloc ?_ _ | refine bDrewN ?_ _ | refine bDrew ?_)).mono ?_); rintro e w' ⟨I, n2, c2, GA, gn, gc, KA, kn, kc, x2, R, rfl, rfl, hF, hP⟩)) | (go_at_call 76; ((with_reducible refine (ct _ (by with_reducible repeat first | exact Below.refl _ _ | assumption | refine bSetN ?_ (by omega) _ | refine bExt ?_ _ | refine bAlloc ?_ _ | refine bDrewN ?_ _ | refine bDrew ?_) I n2 c2 GA gn gc KA kn kc x2 R _ _ (by with_reducible repeat first | exact Below.refl _ _ | assumption | refine bSetN ?_ (by omega) _ | refine bExt ?_ _ | refine bAlloc ?_ _ | refine bDrewN ?_ _ | refine bDrew ?_) hF hP).mono ?_); rintro e w' ⟨rfl, x3, rfl⟩)))
  go_ret2
  exact RetNB.mk_ (by rw [HV.out]) rfl (by with_reducible repeat first | exact Below.refl _ _ | assumption | refine bSetN ?_ (by omega) _ | refine bExt ?_ _ | refine bAlloc ?_ _ | refine bDrewN ?_ _ | refine bDrew ?_)
end Go.Proofs.YtmeaklaagglmeaaGreatDoor
