/- SealHolds, in the program and in the reference. Conditions: the table that strconv.Itoa reads; chains below 2^40 links. -/
import Derived.Test.YtpjaiihkgeabiaaDoorSealL
set_option linter.unusedVariables false
set_option linter.unusedSimpArgs false
set_option maxRecDepth 100000
namespace Go.Proofs.YtpjaiihkgeabiaaDoor
open Go.RowKit
set_option maxHeartbeats 1000000 in
theorem specSealHolds_any (w : World) (A : Option Addr) (n c : Nat) (k : Int) (l : List Int) (s : Int) (ha : RdI w A n l) (hn : n ≤ 1099511627776) :
    Calls Tryd.prog 11 #[.int .i64 k, .slice A n c, .int .i64 s] w (RetBB w (holdR k l s) (holdOk k l s)) := by
  have cg := chGood_any w A n c l ha hn
  have ck := fun w => chKey_any k w
  have cl := fun w => chLink_any s w
  cases hk : inB k 0 1000000000
  · simp only [hk] at ck
    have HR : Hid (holdR k l s = false) := Lib.hid (by simp [holdR, holdOk, hk])
    have HO : Hid (holdOk k l s = false) := Lib.hid (by simp [holdOk, hk])
    rw [HO.out]
    go_enter Tryd.func11, Tryd.ntmps11
    go_wp2_with (first | (go_at_call 47; ((with_reducible refine (ck _).mono ?_); rintro e w' ⟨rfl, rfl⟩)))
    go_ret2
    exact RetBB.mk_ (by rw [HR.out]) (by repeat (first | exact Below.refl _ _ | assumption | refine bExt ?_ _ | refine bAlloc ?_ _ | refine bDrewN ?_ _ | refine bDrew ?_ | refine bSet ?_ (by first | exact Nat.le_refl _ | omega | (simp; done) | (simp; omega)) _))
  · simp only [hk] at ck
    cases hc : chainB l
    · rw [hc] at cg
      have HR : Hid (holdR k l s = false) := Lib.hid (by simp [holdR, holdOk, hc])
      have HO : Hid (holdOk k l s = false) := Lib.hid (by simp [holdOk, hc])
      rw [HO.out]
      go_enter Tryd.func11, Tryd.ntmps11
      go_wp2_with (first | (go_at_call 47; ((with_reducible refine (ck _).mono ?_); rintro e w' ⟨rfl, rfl⟩)) | (go_at_call 48; ((with_reducible refine (cg).mono ?_); rintro e w' ⟨rfl, rfl⟩)))
      go_ret2
      exact RetBB.mk_ (by rw [HR.out]) (by repeat (first | exact Below.refl _ _ | assumption | refine bExt ?_ _ | refine bAlloc ?_ _ | refine bDrewN ?_ _ | refine bDrew ?_ | refine bSet ?_ (by first | exact Nat.le_refl _ | omega | (simp; done) | (simp; omega)) _))
    · rw [hc] at cg
      cases hq : inB s 0 1000002
      · simp only [hq] at cl
        have HR : Hid (holdR k l s = false) := Lib.hid (by simp [holdR, holdOk, hq])
        have HO : Hid (holdOk k l s = false) := Lib.hid (by simp [holdOk, hq])
        rw [HO.out]
        go_enter Tryd.func11, Tryd.ntmps11
        go_wp2_with (first | (go_at_call 47; ((with_reducible refine (ck _).mono ?_); rintro e w' ⟨rfl, rfl⟩)) | (go_at_call 48; ((with_reducible refine (cg).mono ?_); rintro e w' ⟨rfl, rfl⟩)) | (go_at_call 53; ((with_reducible refine (cl _).mono ?_); rintro e w' ⟨rfl, rfl⟩)))
        go_ret2
        exact RetBB.mk_ (by rw [HR.out]) (by repeat (first | exact Below.refl _ _ | assumption | refine bExt ?_ _ | refine bAlloc ?_ _ | refine bDrewN ?_ _ | refine bDrew ?_ | refine bSet ?_ (by first | exact Nat.le_refl _ | omega | (simp; done) | (simp; omega)) _))
      · simp only [hq] at cl
        have HO : Hid (holdOk k l s = true) := Lib.hid (by simp [holdOk, hc, hk, hq])
        have HR : Hid (holdR k l s = decide (sealN k l = s)) := Lib.hid (by simp [holdR, holdOk, hc, hk, hq])
        obtain ⟨⟨h0, h1⟩, hl, hx⟩ := sealOk_of hk hc
        rw [ha.len] at hl
        rw [HO.out]
        go_enter Tryd.func11, Tryd.ntmps11
        go_wp2_with (first | (go_at_call 47; ((with_reducible refine (ck _).mono ?_); rintro e w' ⟨rfl, rfl⟩)) | (go_at_call 48; ((with_reducible refine (cg).mono ?_); rintro e w' ⟨rfl, rfl⟩)) | (go_at_call 53; ((with_reducible refine (cl _).mono ?_); rintro e w' ⟨rfl, rfl⟩)) | (go_at_call 49; ((with_reducible refine (chSeal_any _ _ _ _ _ _ ha hl h0 h1 hx).mono ?_); rintro e w' ⟨rfl, x, rfl⟩)))
        go_ret2
        exact RetBB.mk_ (by rw [HR.out]; first | rfl | simp) (by repeat (first | exact Below.refl _ _ | assumption | refine bExt ?_ _ | refine bAlloc ?_ _ | refine bDrewN ?_ _ | refine bDrew ?_ | refine bSet ?_ (by first | exact Nat.le_refl _ | omega | (simp; done) | (simp; omega)) _))
set_option maxHeartbeats 1000000 in
theorem implSealHolds_any (w : World) (A : Option Addr) (n c : Nat) (k : Int) (l : List Int) (s : Int) (ha : RdI w A n l) (hn : n ≤ 1099511627776) (hT : Tab w) :
    Calls Tryd.prog 9 #[.int .i64 k, .slice A n c, .int .i64 s] w (RetBB w (holdR k l s) (holdOk k l s)) := by
  have cg := fun W (h : Below w.heap.size w W) => isChain_any W A n c l (ha.below h) hn
  have ck := fun w => isKey_any k w
  have cl := fun w => isLink_any s w
  cases hk : inB k 0 1000000000
  · simp only [hk] at ck
    have HR : Hid (holdR k l s = false) := Lib.hid (by simp [holdR, holdOk, hk])
    have HO : Hid (holdOk k l s = false) := Lib.hid (by simp [holdOk, hk])
    rw [HO.out]
    go_enter Tryd.func9, Tryd.ntmps9
    go_wp2_with (first | (go_at_call 44; ((with_reducible refine (ck _).mono ?_); rintro e w' ⟨rfl, x, rfl⟩)))
    go_ret2
    exact RetBB.mk_ (by rw [HR.out]) (by repeat (first | exact Below.refl _ _ | assumption | refine bExt ?_ _ | refine bAlloc ?_ _ | refine bDrewN ?_ _ | refine bDrew ?_ | refine bSet ?_ (by first | exact Nat.le_refl _ | omega | (simp; done) | (simp; omega)) _))
  · simp only [hk] at ck
    cases hc : chainB l
    · simp only [hc] at cg
      have HR : Hid (holdR k l s = false) := Lib.hid (by simp [holdR, holdOk, hc])
      have HO : Hid (holdOk k l s = false) := Lib.hid (by simp [holdOk, hc])
      rw [HO.out]
      go_enter Tryd.func9, Tryd.ntmps9
      go_wp2_with (first | (go_at_call 44; ((with_reducible refine (ck _).mono ?_); rintro e w' ⟨rfl, x, rfl⟩)) | (go_at_call 45; ((with_reducible refine (cg _ (ext_below _ _)).mono ?_); rintro e w' ⟨rfl, rfl⟩)))
      go_ret2
      exact RetBB.mk_ (by rw [HR.out]) (by repeat (first | exact Below.refl _ _ | assumption | refine bExt ?_ _ | refine bAlloc ?_ _ | refine bDrewN ?_ _ | refine bDrew ?_ | refine bSet ?_ (by first | exact Nat.le_refl _ | omega | (simp; done) | (simp; omega)) _))
    · simp only [hc] at cg
      cases hq : inB s 0 1000002
      · simp only [hq] at cl
        have HR : Hid (holdR k l s = false) := Lib.hid (by simp [holdR, holdOk, hq])
        have HO : Hid (holdOk k l s = false) := Lib.hid (by simp [holdOk, hq])
        rw [HO.out]
        go_enter Tryd.func9, Tryd.ntmps9
        go_wp2_with (first | (go_at_call 44; ((with_reducible refine (ck _).mono ?_); rintro e w' ⟨rfl, x, rfl⟩)) | (go_at_call 45; ((with_reducible refine (cg _ (ext_below _ _)).mono ?_); rintro e w' ⟨rfl, rfl⟩)) | (go_at_call 50; ((with_reducible refine (cl _).mono ?_); rintro e w' ⟨rfl, rfl⟩)))
        go_ret2
        exact RetBB.mk_ (by rw [HR.out]) (by repeat (first | exact Below.refl _ _ | assumption | refine bExt ?_ _ | refine bAlloc ?_ _ | refine bDrewN ?_ _ | refine bDrew ?_ | refine bSet ?_ (by first | exact Nat.le_refl _ | omega | (simp; done) | (simp; omega)) _))
      · simp only [hq] at cl
        have HO : Hid (holdOk k l s = true) := Lib.hid (by simp [holdOk, hc, hk, hq])
        have HR : Hid (holdR k l s = decide (sealN k l = s)) := Lib.hid (by simp [holdR, holdOk, hc, hk, hq])
        obtain ⟨⟨h0, h1⟩, hl, hx⟩ := sealOk_of hk hc
        rw [ha.len] at hl
        rw [HO.out]
        go_enter Tryd.func9, Tryd.ntmps9
        go_wp2_with (first | (go_at_call 44; ((with_reducible refine (ck _).mono ?_); rintro e w' ⟨rfl, x, rfl⟩)) | (go_at_call 45; ((with_reducible refine (cg _ (ext_below _ _)).mono ?_); rintro e w' ⟨rfl, rfl⟩)) | (go_at_call 50; ((with_reducible refine (cl _).mono ?_); rintro e w' ⟨rfl, rfl⟩)) | (go_at_call 46; ((with_reducible refine (sealOf_any _ _ _ _ _ _ (ha.below (ext_below _ _)) hl h0 h1 hx (hT.below (ext_below _ _))).mono ?_); rintro e w' ⟨rfl, x2, rfl⟩)))
        go_ret2
        exact RetBB.mk_ (by rw [HR.out]; first | rfl | simp) (by repeat (first | exact Below.refl _ _ | assumption | refine bExt ?_ _ | refine bAlloc ?_ _ | refine bDrewN ?_ _ | refine bDrew ?_ | refine bSet ?_ (by first | exact Nat.le_refl _ | omega | (simp; done) | (simp; omega)) _))
end Go.Proofs.YtpjaiihkgeabiaaDoor
