/- Contracts: SegmentScore, in the program and in the reference. Conditions: none. -/
import Derived.Test.YtlfhhkgleapamaaGreatDoorQPar7s
set_option linter.unusedVariables false
set_option linter.unusedSimpArgs false
set_option maxRecDepth 100000
set_option maxHeartbeats 16000000
namespace Go.Proofs.YtlfhhkgleapamaaGreatDoor
open Go.RowKit
def segO (els : List El) (lims : List Int) (q0 q1 q2 q3 : Int) (its : List It) (gg kk : List (List Int)) (s1 s2 s3 factor : Int) : Int := if askB els lims q0 q1 q2 q3 its gg kk s1 s2 s3 factor then scoreP els q0 q1 q2 q3 its gg kk s1 s2 s3 factor else 0
theorem specSegmentScore_any (w : World) (A B : OA) (n m c d : Nat) (els : List El) (lims : List Int) (q0 q1 q2 q3 : Int) (hc : CodeR w A n B m els lims) (I : OA) (n2 c2 : Nat) (its : List It) (hi : ItsR w I n2 c2 its) (GA KA : OA) (gn gc kn kc : Nat) (gg kk : List (List Int)) (hm : RdMk w GA gn KA kn gg kk) (s1 s2 s3 factor : Int) :
  Calls Tryz.prog 12 #[.agg #[.slice A n c, .slice B m d, .int .i64 q0, .int .i64 q1, .int .i64 q2, .int .i64 q3], .agg #[.slice I n2 c2, .slice GA gn gc, .slice KA kn kc, .int .i64 s1, .int .i64 s2, .int .i64 s3], .int .i64 factor] w (RetNB w (segO els lims q0 q1 q2 q3 its gg kk s1 s2 s3 factor) (askB els lims q0 q1 q2 q3 its gg kk s1 s2 s3 factor)) := by
 have ca := fun W h => sgAsked_any W A B n m c d els lims q0 q1 q2 q3 (hc.below h) I n2 c2 its (hi.below h) GA KA gn gc kn kc gg kk (hm.below h) s1 s2 s3 factor
 have HO : Hid (segO els lims q0 q1 q2 q3 its gg kk s1 s2 s3 factor = if askB els lims q0 q1 q2 q3 its gg kk s1 s2 s3 factor then scoreP els q0 q1 q2 q3 its gg kk s1 s2 s3 factor else 0) := rfl
 cases hp : askB els lims q0 q1 q2 q3 its gg kk s1 s2 s3 factor
 ·
  rw [hp] at ca HO;clear hp hc hi hm;go_enter Tryz.func12, Tryz.ntmps12;go_wp2_with ((go_at_call 41; ((with_reducible refine ex (ca _ bL) ?_); intro y1)))
  go_ret2;exact RetNB.mk_ (by rw [HO.out]; rfl) rfl bL
 ·
  have hP := ask_of hp;have hM : PP w A n els I n2 c2 its GA gn gg := ⟨⟨hc.1, hc.2.2.1⟩, ⟨hi.1, hi.2.2.1⟩, hm.1⟩;have cs := fun W h => sgScore_any W A B n m c d els q0 q1 q2 q3 I n2 c2 its GA KA gn gc kn kc gg kk s1 s2 s3 (hM.below h) (hm.2.1.below h) hP.1 factor hP.2
  rw [hp] at ca HO;clear hp hc hi hm hP hM;go_enter Tryz.func12, Tryz.ntmps12;go_wp2_with (first | (go_at_call 41; ((with_reducible refine ex (ca _ bL) ?_); intro y1)) | (go_at_call 47; ((with_reducible refine ex (cs _ bL) ?_); intro y2)))
  go_ret2;exact RetNB.mk_ (by rw [HO.out]; rfl) rfl bL
theorem implSegmentScore_any (w : World) (A B : OA) (n m c d : Nat) (els : List El) (lims : List Int) (q0 q1 q2 q3 : Int) (hc : CodeR w A n B m els lims) (I : OA) (n2 c2 : Nat) (its : List It) (hi : ItsR w I n2 c2 its) (GA KA : OA) (gn gc kn kc : Nat) (gg kk : List (List Int)) (hm : RdMk w GA gn KA kn gg kk) (s1 s2 s3 factor : Int) :
  Calls Tryz.prog 11 #[.agg #[.slice A n c, .slice B m d, .int .i64 q0, .int .i64 q1, .int .i64 q2, .int .i64 q3], .agg #[.slice I n2 c2, .slice GA gn gc, .slice KA kn kc, .int .i64 s1, .int .i64 s2, .int .i64 s3], .int .i64 factor] w (RetNB w (segO els lims q0 q1 q2 q3 its gg kk s1 s2 s3 factor) (askB els lims q0 q1 q2 q3 its gg kk s1 s2 s3 factor)) := by
 have ca := fun W h => canScore_any W A B n m c d els lims q0 q1 q2 q3 (hc.below h) I n2 c2 its (hi.below h) GA KA gn gc kn kc gg kk (hm.below h) s1 s2 s3 factor
 have HO : Hid (segO els lims q0 q1 q2 q3 its gg kk s1 s2 s3 factor = if askB els lims q0 q1 q2 q3 its gg kk s1 s2 s3 factor then scoreP els q0 q1 q2 q3 its gg kk s1 s2 s3 factor else 0) := rfl
 cases hp : askB els lims q0 q1 q2 q3 its gg kk s1 s2 s3 factor
 ·
  rw [hp] at ca HO;clear hp hc hi hm;go_enter Tryz.func11, Tryz.ntmps11;go_wp2_with ((go_at_call 38; ((with_reducible refine ex (ca _ bL) ?_); intro y1)))
  go_ret2;exact RetNB.mk_ (by rw [HO.out]; rfl) rfl bL
 ·
  have hP := ask_of hp;have hM : PP w A n els I n2 c2 its GA gn gg := ⟨⟨hc.1, hc.2.2.1⟩, ⟨hi.1, hi.2.2.1⟩, hm.1⟩;have cs := fun W h => segmentScore_any W A B n m c d els q0 q1 q2 q3 I n2 c2 its GA KA gn gc kn kc gg kk s1 s2 s3 (hM.below h) (hm.2.1.below h) hP.1 factor hP.2
  rw [hp] at ca HO;clear hp hc hi hm hP hM;go_enter Tryz.func11, Tryz.ntmps11;go_wp2_with (first | (go_at_call 38; ((with_reducible refine ex (ca _ bL) ?_); intro y1)) | (go_at_call 46; ((with_reducible refine ex (cs _ bL) ?_); intro y2)))
  go_ret2;exact RetNB.mk_ (by rw [HO.out]; rfl) rfl bL
section
variable {els : List El} {lims : List Int} {q0 q1 q2 q3 : Int} {its : List It} {gg kk : List (List Int)} {s1 s2 s3 sk sk' fa : Int} {s : ByteArray}
theorem pro_ask (h : proB els lims q0 q1 q2 q3 its gg kk s1 s2 s3 sk fa = true) : askB els lims q0 q1 q2 q3 its gg kk s1 s2 s3 fa = true := by
 simp only [proB, Bool.and_eq_true] at h; exact h.1
theorem pro_code (h : proB els lims q0 q1 q2 q3 its gg kk s1 s2 s3 sk fa = true) : codeB els lims q0 q1 q2 q3 = true := by
 cases hc : codeB els lims q0 q1 q2 q3
 ·
  simp [proB, askB, perfB, judgedB, progB, hc] at h
 ·
  rfl
theorem pro_holds (h : proB els lims q0 q1 q2 q3 its gg kk s1 s2 s3 sk fa = true) : holdsK els lims q0 q1 q2 q3 (textV els q0 q1 q2 q3 its gg kk s1 s2 s3 sk fa) = true := by
 unfold holdsK; rw [pro_code h, decide_eq_true (textV_size h)]; rfl
theorem pro_seg (h : proB els lims q0 q1 q2 q3 its gg kk s1 s2 s3 sk fa = true) : segO els lims q0 q1 q2 q3 its gg kk s1 s2 s3 fa = scoreP els q0 q1 q2 q3 its gg kk s1 s2 s3 fa := by
 unfold segO; rw [if_pos (pro_ask h)]
theorem pro_ren (h : proB els lims q0 q1 q2 q3 its gg kk s1 s2 s3 sk fa = true) (hs : inB sk' 1 999 = true) : proB els lims q0 q1 q2 q3 its gg kk s1 s2 s3 sk' fa = true := by
 simp only [proB, Bool.and_eq_true] at h ⊢; exact ⟨h.1, hs⟩
theorem pro_set {k j : Nat} {v : Int} (h : proB els lims q0 q1 q2 q3 its gg kk s1 s2 s3 sk fa = true) (hk : k < its.length) (hv : 0 <= v /\ v <= 3) : proB els lims q0 q1 q2 q3 (setIts its k j v) gg kk s1 s2 s3 sk fa = true := by
 simp only [proB, askB, Bool.and_eq_true] at h ⊢; exact ⟨⟨perfB_set h.1.1 hk hv, h.1.2⟩, h.2⟩
theorem ren_all {v : PR} (h : rdP els lims q0 q1 q2 q3 s = some v) (hs : inB sk' 1 999 = true) :
  ∃ t, renV els q0 q1 q2 q3 sk' (some v) = t /\ difB s t = true /\ (difO s t = [] ∨ difO s t = [1]) /\ rdP els lims q0 q1 q2 q3 t = some (v.1, v.2.1, v.2.2.1, sk', v.2.2.2.2) /\ holdsK els lims q0 q1 q2 q3 t = true /\ t.size <= 4000 := by
 have hB := rd_good h;have hB' := pro_ren (sk' := sk') hB hs;obtain ⟨its, ⟨gg, kk⟩, ⟨s1, s2, s3⟩, sk, fa⟩ := v;simp only at hB hB';have ht := rd_text_of h;simp only at ht;refine ⟨textV els q0 q1 q2 q3 its gg kk s1 s2 s3 sk' fa, ?_, ?_, ?_, rd_text hB', pro_holds hB', textV_size hB'⟩
 ·
  unfold renV; simp only; rw [if_pos hs]
 ·
  unfold difB; rw [decide_eq_true (rd_size h), decide_eq_true (textV_size hB')]; rfl
 ·
  rw [<- ht]; exact dif_ren hB hB'
theorem rec_all {v : PR} {k j m : Int} (h : rdP els lims q0 q1 q2 q3 s = some v) (hk : recOk v.1 k j m = true) :
  ∃ (t : ByteArray) (k' j' : Nat), recV els q0 q1 q2 q3 (some v) k j m = t /\ k = k' /\ j = j' /\ k' < v.1.length /\ j' < (v.1[k']?.getD zIt).1.length /\ rdP els lims q0 q1 q2 q3 t = some (setIts v.1 k' j' m, v.2.1, v.2.2.1, v.2.2.2.1, v.2.2.2.2) /\ t.size <= 4000 := by
 have hB := rd_good h;obtain ⟨k', j', rfl, rfl, h1, h2, hv⟩ := recOk_of hk;have hB' := pro_set (j := j') hB h1 hv;obtain ⟨its, ⟨gg, kk⟩, ⟨s1, s2, s3⟩, sk, fa⟩ := v;simp only at hB hB' h1 h2 hk ⊢;refine ⟨textV els q0 q1 q2 q3 (setIts its k' j' m) gg kk s1 s2 s3 sk fa, k', j', ?_, rfl, rfl, h1, h2, rd_text hB', textV_size hB'⟩;unfold recV recT;simp only;rw [if_pos hk]
 simp
end
theorem wtS_le {α : Type} {f : α -> Int} {c : Int} : ∀ {l : List α}, (∀ x ∈ l, f x <= c) -> wtS f l <= l.length * c
 | [], _ => by simp [wtS]
 | a :: r, h => by
  have h1 := wtS_le (l := r) (fun x hx => h x (by simp [hx]));have h2 := h a (by simp);have e : wtS f (a :: r) = f a + wtS f r := by simp [wtS]
  rw [e, List.length_cons];have e2 : ((r.length + 1 : Nat) : Int) * c = (r.length : Int) * c + c := by push_cast; rw [Int.add_mul, Int.one_mul]
  omega
theorem lenSum_wt (ll : List (List Int)) : lenSum ll = wtS (fun l : List Int => (l.length : Int)) ll := rfl
structure RdSm (v : PR) : Prop where
 small : ∀ x ∈ v.1, itSmall x
 len : v.1.length <= 14
 wt : wtS itWt v.1 <= 1048576
 sum : lenSum v.2.1.1 + lenSum v.2.1.2 <= 1048576
 gl : v.2.1.1.length <= 14
 kl : v.2.1.2.length <= 14
 rows : (∀ l ∈ v.2.1.1, l.length <= 2000001) /\ ∀ l ∈ v.2.1.2, l.length <= 2000001
theorem rdSm {els : List El} {lims : List Int} {q0 q1 q2 q3 : Int} {s : ByteArray} {o : Option PR} (ho : rdP els lims q0 q1 q2 q3 s = o) : RdSm (o.getD zPR) := by
 cases o with
 | none => exact ⟨fun x hx => by simp [zPR] at hx, by simp [zPR], by simp [zPR, wtS], by simp [zPR, lenSum], by simp [zPR], by simp [zPR], fun l hl => by simp [zPR] at hl, fun l hl => by simp [zPR] at hl⟩
 | some v =>
  obtain ⟨hit, hPG, hfa, hsk⟩ := pro_of (rd_good ho);have hm := marksB_of hPG.mks;have hlen := hPG.len;have hg9 : ∀ l ∈ v.2.1.1, (l.length : Int) <= 9 := fun l hl => by
   obtain ⟨k, hk, rfl⟩ := List.getElem_of_mem hl;have := (hm.2.2.2 k hk).1;rw [List.getElem?_eq_getElem hk] at this;simp only [Option.getD_some] at this;omega
  have hk9 : ∀ l ∈ v.2.1.2, (l.length : Int) <= 9 := fun l hl => by
   have h := hPG.mks;simp only [marksB, Bool.and_eq_true] at h;have h2 := List.all_eq_true.1 h.2.1.2 l hl;simp only [cRowB, Bool.and_eq_true, decide_eq_true_eq] at h2;have := hm.2.2.1;omega
  have w1 := wtS_le (f := itWt) (c := 7) (l := v.1) (fun x hx => by
   have h := item_of (hit x hx);unfold itWt; omega)
  have w2 := wtS_le hg9;have w3 := wtS_le hk9;rw [<- lenSum_wt] at w2 w3;refine ⟨fun x hx => item_small (hit x hx), hlen, ?_, ?_, hm.2.1, ?_, marks_rows9 hPG.mks⟩
  ·
   simp only [Option.getD_some]; omega
  ·
   simp only [Option.getD_some]; omega
  ·
   simp only [Option.getD_some]; omega
end Go.Proofs.YtlfhhkgleapamaaGreatDoor
