/- Contracts: ProtocolHolds, Renumbered, in the program. Conditions: strings below 2^20 bytes; the tables. -/
import Derived.Test.YtmeaklaagglmeaaGreatDoorYPar5s
set_option linter.unusedVariables false
set_option linter.unusedSimpArgs false
set_option maxRecDepth 100000
namespace Go.Proofs.YtmeaklaagglmeaaGreatDoor
open Go.RowKit
end Go.Proofs.YtmeaklaagglmeaaGreatDoor
namespace Go.Proofs.YtmeaklaagglmeaaGreatDoor
open Go.RowKit
theorem rd_good {els : List El} {lims : List Int} {q0 q1 q2 q3 : Int} {s : ByteArray} {v : PR} (h : rdP els lims q0 q1 q2 q3 s = some v) : proB els lims q0 q1 q2 q3 v.1 v.2.1.1 v.2.1.2 v.2.2.1.1 v.2.2.1.2.1 v.2.2.1.2.2 v.2.2.2.1 v.2.2.2.2 = true := by
 unfold rdP at h
 split at h
 ·
  have h2 := (accP_iff.1 h).2
  simp only [accB, Bool.and_eq_true] at h2
  exact h2.1
 ·
  cases h
def renV (els : List El) (q0 q1 q2 q3 : Int) (skater : Int) (o : Option PR) : ByteArray := match o with
 | some v => if inB skater 1 999 then textV els q0 q1 q2 q3 v.1 v.2.1.1 v.2.1.2 v.2.2.1.1 v.2.2.1.2.1 v.2.2.1.2.2 skater v.2.2.2.2 else ⟨#[]⟩
 | none => ⟨#[]⟩
set_option maxHeartbeats 4000000 in
theorem implRenumbered_any (w : World) (A B : Option Addr) (n m c d : Nat) (els : List El) (lims : List Int) (q0 q1 q2 q3 : Int) (hc : CodeR w A n B m els lims) (s : ByteArray) (skater : Int) (hs : s.size ≤ 1048576) (hM : Mxl w) (hTab : Tab w) (hSg : Sgn w) :
  Calls Tryz.prog 32 #[.agg #[.slice A n c, .slice B m d, .int .i64 q0, .int .i64 q1, .int .i64 q2, .int .i64 q3], .string s, .int .i64 skater] w (RetSK w (renV els q0 q1 q2 q3 skater (rdP els lims q0 q1 q2 q3 s)) ((rdP els lims q0 q1 q2 q3 s).isSome && inB skater 1 999)) := by
 have cr := fun W (h : Below w.heap.size w W) => implReadProtocol_any W A B n m c d els lims q0 q1 q2 q3 (hc.below h) s hs (hM.below h) (hTab.below h) (hSg.below h)
 have ck := fun W => isSkater_any skater W
 have hgood := fun v => @rd_good els lims q0 q1 q2 q3 s v
 generalize rdP els lims q0 q1 q2 q3 s = o at *
 unfold RetRd at cr
 cases o with
 | none =>
  simp only [Option.isSome_none, Option.getD_none] at cr
  clear hM hTab hSg hc hgood
  go_enter Tryz.func32, Tryz.ntmps32
  go_wp2_with ((go_at_call 13; ((with_reducible refine (cr _ (by with_reducible repeat first | exact Below.refl _ _ | assumption | refine bSetN ?_ (by omega) _ | refine bExt ?_ _ | refine bAlloc ?_ _ | refine bDrewN ?_ _ | refine bDrew ?_)).mono ?_); rintro e w' ⟨I, n2, c2, GA, gn, gc, KA, kn, kc, x2, R, rfl, rfl, hF, hP⟩)))
  go_ret2
  exact RetSK.mk_ rfl rfl (by with_reducible repeat first | exact Below.refl _ _ | assumption | refine bSetN ?_ (by omega) _ | refine bExt ?_ _ | refine bAlloc ?_ _ | refine bDrewN ?_ _ | refine bDrew ?_)
 | some v =>
  obtain ⟨its, ⟨gg, kk⟩, ⟨s1, s2, s3⟩, sk, fa⟩ := v
  simp only [Option.isSome_some, Option.getD_some] at cr
  have hB := hgood _ rfl
  simp only at hB
  clear hgood
  cases hk : inB skater 1 999
  ·
   have HV : Hid (renV els q0 q1 q2 q3 skater (some (its, (gg, kk), (s1, s2, s3), sk, fa)) = ⟨#[]⟩) := by unfold Hid renV; simp only; rw [hk]; rfl
   rw [hk] at ck
   clear hM hTab hSg hc hB hk
   go_enter Tryz.func32, Tryz.ntmps32
   go_wp2_with (first | (go_at_call 13; ((with_reducible refine (cr _ (by with_reducible repeat first | exact Below.refl _ _ | assumption | refine bSetN ?_ (by omega) _ | refine bExt ?_ _ | refine bAlloc ?_ _ | refine bDrewN ?_ _ | refine bDrew ?_)).mono ?_); rintro e w' ⟨I, n2, c2, GA, gn, gc, KA, kn, kc, x2, R, rfl, rfl, hF, hP⟩)) | (go_at_call 71; ((with_reducible refine (ck _).mono ?_); rintro e w' ⟨rfl, rfl⟩)))
   go_ret2
   exact RetSK.mk_ (by rw [HV.out]) rfl (by with_reducible repeat first | exact Below.refl _ _ | assumption | refine bSetN ?_ (by omega) _ | refine bExt ?_ _ | refine bAlloc ?_ _ | refine bDrewN ?_ _ | refine bDrew ?_)
  ·
   have HV : Hid (renV els q0 q1 q2 q3 skater (some (its, (gg, kk), (s1, s2, s3), sk, fa)) = textV els q0 q1 q2 q3 its gg kk s1 s2 s3 skater fa) := by unfold Hid renV; simp only; rw [hk]; rfl
   obtain ⟨hit, hPG, hfa, hsk⟩ := pro_of hB
   have hskr := inB_iff.1 hk
   rw [hk] at ck
   have hmk := hPG.mks
   have hlen := hPG.len
   have hmo := marksB_of hmk
   have hB2 := hPG
   clear hB hk
   have ct := fun W (h1 : Below w.heap.size w W) (I : Option Addr) (n2 c2 : Nat) (GA : Option Addr) (gn gc : Nat) (KA : Option Addr) (kn kc : Nat) (x2 : World) (R : Fam) (b hi : Nat) (hb : Below (ext (w.alloc (.cells #[.slice A n c, .slice B m d, .int .i64 q0, .int .i64 q1, .int .i64 q2, .int .i64 q3] 39)) x2).heap.size (ext (w.alloc (.cells #[.slice A n c, .slice B m d, .int .i64 q0, .int .i64 q1, .int .i64 q2, .int .i64 q3] 39)) x2) W) (hF : Fo b hi (ext (w.alloc (.cells #[.slice A n c, .slice B m d, .int .i64 q0, .int .i64 q1, .int .i64 q2, .int .i64 q3] 39)) x2) R) (hP : PfF R I n2 c2 its GA gn gc gg KA kn kc kk) => protocolText_any W A B n m c d els q0 q1 q2 q3 I n2 c2 its GA KA gn gc kn kc gg kk s1 s2 s3 ⟨⟨(hc.below h1).1, hc.2.2.1⟩, ⟨(hP.1.rd hF).below hb, hP.1.cap hF⟩, (hP.2.1.rd hF).below hb⟩ ((RdMk.of_len (hP.2.1.rd hF) (hP.2.2.rd hF) (by have := hP.2.1.1; omega) (by have := hP.2.2.1; omega) (marks_rows9 hmk)).below hb) hB2 (hTab.below h1) (hSg.below h1) skater fa hskr hfa
   clear hM hc
   go_enter Tryz.func32, Tryz.ntmps32
   go_wp2_with (first | (go_at_call 13; ((with_reducible refine (cr _ (by with_reducible repeat first | exact Below.refl _ _ | assumption | refine bSetN ?_ (by omega) _ | refine bExt ?_ _ | refine bAlloc ?_ _ | refine bDrewN ?_ _ | refine bDrew ?_)).mono ?_); rintro e w' ⟨I, n2, c2, GA, gn, gc, KA, kn, kc, x2, R, rfl, rfl, hF, hP⟩)) | (go_at_call 71; ((with_reducible refine (ck _).mono ?_); rintro e w' ⟨rfl, rfl⟩)) | (go_at_call 72; ((with_reducible refine (ct _ (by with_reducible repeat first | exact Below.refl _ _ | assumption | refine bSetN ?_ (by omega) _ | refine bExt ?_ _ | refine bAlloc ?_ _ | refine bDrewN ?_ _ | refine bDrew ?_) I n2 c2 GA gn gc KA kn kc x2 R _ _ (by with_reducible repeat first | exact Below.refl _ _ | assumption | refine bSetN ?_ (by omega) _ | refine bExt ?_ _ | refine bAlloc ?_ _ | refine bDrewN ?_ _ | refine bDrew ?_) hF hP).mono ?_); rintro e w' ⟨rfl, x3, rfl⟩)))
   go_ret2
   exact RetSK.mk_ (by rw [HV.out]) rfl (by with_reducible repeat first | exact Below.refl _ _ | assumption | refine bSetN ?_ (by omega) _ | refine bExt ?_ _ | refine bAlloc ?_ _ | refine bDrewN ?_ _ | refine bDrew ?_)
end Go.Proofs.YtmeaklaagglmeaaGreatDoor
namespace Go.Proofs.YtmeaklaagglmeaaGreatDoor
open Go.RowKit
end Go.Proofs.YtmeaklaagglmeaaGreatDoor
