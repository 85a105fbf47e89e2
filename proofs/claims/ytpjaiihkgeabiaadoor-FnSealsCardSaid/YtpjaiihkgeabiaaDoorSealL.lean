/- SealOf and SealHolds, in the program and in the reference. Conditions: the table that strconv.Itoa reads; chains below 2^40 links. -/
import Derived.Test.YtpjaiihkgeabiaaDoorSeal
import Derived.Test.YtpjaiihkgeabiaaDoorLawKit
set_option linter.unusedVariables false
set_option linter.unusedSimpArgs false
set_option maxRecDepth 100000
namespace Go.Proofs.YtpjaiihkgeabiaaDoor
open Go.RowKit
def sealOk (k : Int) (l : List Int) : Bool := inB k 0 1000000000 && chainB l
def sealR (k : Int) (l : List Int) : Int := if sealOk k l then sealN k l else 0
def holdOk (k : Int) (l : List Int) (s : Int) : Bool := inB k 0 1000000000 && (chainB l && inB s 0 1000002)
def holdR (k : Int) (l : List Int) (s : Int) : Bool := holdOk k l s && decide (sealN k l = s)
def RetNB (w : World) (v : Int) (ok : Bool) (e : Ending) (w' : World) : Prop := ∃ x, e = .returned (.tuple #[.int .i64 v, .bool ok]) ∧ w' = ext w x
def RetBB (w : World) (v ok : Bool) (e : Ending) (w' : World) : Prop := ∃ x, e = .returned (.tuple #[.bool v, .bool ok]) ∧ w' = ext w x
theorem RetNB.mk_ {w W : World} {v v' : Int} {ok : Bool} (hv : v' = v) (hb : Below w.heap.size w W) : RetNB w v ok (.returned (.tuple #[.int .i64 v', .bool ok])) W := by
  subst hv; obtain ⟨x, rfl⟩ := ext_ex hb; exact ⟨x, rfl, rfl⟩
theorem RetBB.mk_ {w W : World} {v v' ok : Bool} (hv : v' = v) (hb : Below w.heap.size w W) : RetBB w v ok (.returned (.tuple #[.bool v', .bool ok])) W := by
  subst hv; obtain ⟨x, rfl⟩ := ext_ex hb; exact ⟨x, rfl, rfl⟩
theorem sealOk_of {k : Int} {l : List Int} (h : inB k 0 1000000000 = true) (h2 : chainB l = true) : (0 ≤ k ∧ k ≤ 1000000000) ∧ l.length ≤ 40 ∧ ∀ x ∈ l, 0 ≤ x ∧ x ≤ 1000002 :=
  ⟨inB_iff.1 h, (chainB_of h2).1, allB_of (chainB_of h2).2⟩
theorem chKey_any (a : Int) (w : World) : Calls Tryd.prog 47 #[.int .i64 a] w fun e w' => e = .returned (.bool (inB a 0 1000000000)) ∧ w = w' := by
  go_enter Tryd.func47, Tryd.ntmps47
  go_wp2_with ((go_at_call 84; ((with_reducible refine (l1In_any _ _ _ _).mono ?_); rintro e w' ⟨rfl, rfl⟩)))
  go_ret
  exact ⟨rfl, rfl⟩
theorem isKey_any (a : Int) (w : World) : Calls Tryd.prog 44 #[.int .i64 a] w fun e w' => e = .returned (.bool (inB a 0 1000000000)) ∧ ∃ x, w' = ext w x := by
  have o0 := OwI.lit_ (Below.refl w.heap.size w) [a] (by simp [maxLen]) #[.int .i64 a] rfl
  have hall : allB [a] 0 1000000000 = inB a 0 1000000000 := by simp [allB]
  have ca := allWithin_any _ _ 1 1 [a] 0 1000000000 o0.rd (by omega)
  rw [hall] at ca
  clear hall
  go_enter Tryd.func44, Tryd.ntmps44
  go_wp2_with (first | (go_at_call 90; ((with_reducible refine (ca).mono ?_); rintro e w' ⟨rfl, rfl⟩)) | go_in)
  go_ret
  exact ⟨rfl, ext_ex (by repeat (first | exact Below.refl _ _ | assumption | refine bExt ?_ _ | refine bAlloc ?_ _ | refine bDrewN ?_ _ | refine bDrew ?_ | refine bSet ?_ (by first | exact Nat.le_refl _ | omega | (simp; done) | (simp; omega)) _))⟩
set_option maxHeartbeats 1000000 in
theorem specSealOf_any (w : World) (A : Option Addr) (n c : Nat) (k : Int) (l : List Int) (ha : RdI w A n l) (hn : n ≤ 1099511627776) :
    Calls Tryd.prog 8 #[.int .i64 k, .slice A n c] w (RetNB w (sealR k l) (sealOk k l)) := by
  have cg := chGood_any w A n c l ha hn
  cases hk : inB k 0 1000000000
  · have HR : Hid (sealR k l = 0) := Lib.hid (by simp [sealR, sealOk, hk])
    have HO : Hid (sealOk k l = false) := Lib.hid (by simp [sealOk, hk])
    have ck := fun w => chKey_any k w
    simp only [hk] at ck
    rw [HO.out]
    go_enter Tryd.func8, Tryd.ntmps8
    go_wp2_with ((go_at_call 47; ((with_reducible refine (ck _).mono ?_); rintro e w' ⟨rfl, rfl⟩)))
    go_ret2
    exact RetNB.mk_ (by rw [HR.out]) (by repeat (first | exact Below.refl _ _ | assumption | refine bExt ?_ _ | refine bAlloc ?_ _ | refine bDrewN ?_ _ | refine bDrew ?_ | refine bSet ?_ (by first | exact Nat.le_refl _ | omega | (simp; done) | (simp; omega)) _))
  · have ck := fun w => chKey_any k w
    simp only [hk] at ck
    cases hc : chainB l
    · have HR : Hid (sealR k l = 0) := Lib.hid (by simp [sealR, sealOk, hc])
      have HO : Hid (sealOk k l = false) := Lib.hid (by simp [sealOk, hc])
      rw [hc] at cg
      rw [HO.out]
      go_enter Tryd.func8, Tryd.ntmps8
      go_wp2_with (first | (go_at_call 47; ((with_reducible refine (ck _).mono ?_); rintro e w' ⟨rfl, rfl⟩)) | (go_at_call 48; ((with_reducible refine (cg).mono ?_); rintro e w' ⟨rfl, rfl⟩)))
      go_ret2
      exact RetNB.mk_ (by rw [HR.out]) (by repeat (first | exact Below.refl _ _ | assumption | refine bExt ?_ _ | refine bAlloc ?_ _ | refine bDrewN ?_ _ | refine bDrew ?_ | refine bSet ?_ (by first | exact Nat.le_refl _ | omega | (simp; done) | (simp; omega)) _))
    · have HR : Hid (sealR k l = sealN k l) := Lib.hid (by simp [sealR, sealOk, hc, hk])
      have HO : Hid (sealOk k l = true) := Lib.hid (by simp [sealOk, hc, hk])
      obtain ⟨⟨h0, h1⟩, hl, hx⟩ := sealOk_of hk hc
      rw [ha.len] at hl
      rw [hc] at cg
      rw [HO.out]
      go_enter Tryd.func8, Tryd.ntmps8
      go_wp2_with (first | (go_at_call 47; ((with_reducible refine (ck _).mono ?_); rintro e w' ⟨rfl, rfl⟩)) | (go_at_call 48; ((with_reducible refine (cg).mono ?_); rintro e w' ⟨rfl, rfl⟩)) | (go_at_call 49; ((with_reducible refine (chSeal_any _ _ _ _ _ _ ha hl h0 h1 hx).mono ?_); rintro e w' ⟨rfl, x, rfl⟩)))
      go_ret2
      exact RetNB.mk_ (by rw [HR.out]) (by repeat (first | exact Below.refl _ _ | assumption | refine bExt ?_ _ | refine bAlloc ?_ _ | refine bDrewN ?_ _ | refine bDrew ?_ | refine bSet ?_ (by first | exact Nat.le_refl _ | omega | (simp; done) | (simp; omega)) _))
set_option maxHeartbeats 1000000 in
theorem implSealOf_any (w : World) (A : Option Addr) (n c : Nat) (k : Int) (l : List Int) (ha : RdI w A n l) (hn : n ≤ 1099511627776) (hT : Tab w) :
    Calls Tryd.prog 7 #[.int .i64 k, .slice A n c] w (RetNB w (sealR k l) (sealOk k l)) := by
  have cg := fun W (h : Below w.heap.size w W) => isChain_any W A n c l (ha.below h) hn
  cases hk : inB k 0 1000000000
  · have HR : Hid (sealR k l = 0) := Lib.hid (by simp [sealR, sealOk, hk])
    have HO : Hid (sealOk k l = false) := Lib.hid (by simp [sealOk, hk])
    have ck := fun w => isKey_any k w
    simp only [hk] at ck
    rw [HO.out]
    go_enter Tryd.func7, Tryd.ntmps7
    go_wp2_with ((go_at_call 44; ((with_reducible refine (ck _).mono ?_); rintro e w' ⟨rfl, x, rfl⟩)))
    go_ret2
    exact RetNB.mk_ (by rw [HR.out]) (by repeat (first | exact Below.refl _ _ | assumption | refine bExt ?_ _ | refine bAlloc ?_ _ | refine bDrewN ?_ _ | refine bDrew ?_ | refine bSet ?_ (by first | exact Nat.le_refl _ | omega | (simp; done) | (simp; omega)) _))
  · have ck := fun w => isKey_any k w
    simp only [hk] at ck
    cases hc : chainB l
    · have HR : Hid (sealR k l = 0) := Lib.hid (by simp [sealR, sealOk, hc])
      have HO : Hid (sealOk k l = false) := Lib.hid (by simp [sealOk, hc])
      simp only [hc] at cg
      rw [HO.out]
      go_enter Tryd.func7, Tryd.ntmps7
      go_wp2_with (first | (go_at_call 44; ((with_reducible refine (ck _).mono ?_); rintro e w' ⟨rfl, x, rfl⟩)) | (go_at_call 45; ((with_reducible refine (cg _ (ext_below _ _)).mono ?_); rintro e w' ⟨rfl, rfl⟩)))
      go_ret2
      exact RetNB.mk_ (by rw [HR.out]) (by repeat (first | exact Below.refl _ _ | assumption | refine bExt ?_ _ | refine bAlloc ?_ _ | refine bDrewN ?_ _ | refine bDrew ?_ | refine bSet ?_ (by first | exact Nat.le_refl _ | omega | (simp; done) | (simp; omega)) _))
    · have HR : Hid (sealR k l = sealN k l) := Lib.hid (by simp [sealR, sealOk, hc, hk])
      have HO : Hid (sealOk k l = true) := Lib.hid (by simp [sealOk, hc, hk])
      obtain ⟨⟨h0, h1⟩, hl, hx⟩ := sealOk_of hk hc
      rw [ha.len] at hl
      simp only [hc] at cg
      rw [HO.out]
      go_enter Tryd.func7, Tryd.ntmps7
      go_wp2_with (first | (go_at_call 44; ((with_reducible refine (ck _).mono ?_); rintro e w' ⟨rfl, x, rfl⟩)) | (go_at_call 45; ((with_reducible refine (cg _ (ext_below _ _)).mono ?_); rintro e w' ⟨rfl, rfl⟩)) | (go_at_call 46; ((with_reducible refine (sealOf_any _ _ _ _ _ _ (ha.below (ext_below _ _)) hl h0 h1 hx (hT.below (ext_below _ _))).mono ?_); rintro e w' ⟨rfl, x2, rfl⟩)))
      go_ret2
      exact RetNB.mk_ (by rw [HR.out]) (by repeat (first | exact Below.refl _ _ | assumption | refine bExt ?_ _ | refine bAlloc ?_ _ | refine bDrewN ?_ _ | refine bDrew ?_ | refine bSet ?_ (by first | exact Nat.le_refl _ | omega | (simp; done) | (simp; omega)) _))
end Go.Proofs.YtpjaiihkgeabiaaDoor
