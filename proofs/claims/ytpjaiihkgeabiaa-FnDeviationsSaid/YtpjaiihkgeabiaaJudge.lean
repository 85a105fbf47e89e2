/- Contracts of AgreementOf, DeviationOf and OrderAgreement, in the program and in the reference. Conditions: lengths below 2^40. -/
import Derived.Test.YtpjaiihkgeabiaaMarksC
import Derived.Test.YtpjaiihkgeabiaaSumUp
import Derived.Test.YtpjaiihkgeabiaaStats
import Derived.Test.YtpjaiihkgeabiaaStats2
set_option linter.unusedVariables false
set_option linter.unusedSimpArgs false
set_option maxRecDepth 100000
namespace Go.Proofs.Ytpjaiihkgeabiaa
open Go.ChangeShapes Go.WideShapes Go.ChangeAt Go.RowKit
theorem quietL {P : Program} {f : FuncId} {args : Array Value} {w : World} {n : Nat} {v : Value}
    (h : Calls P f args (w.drewN n) fun e w' => e = .returned v ∧ w.drewN n = w') : Calls P f args (w.drewN n) fun e w'' => e = .returned v ∧ ∃ m, w'' = w.drewN m :=
  h.mono fun _ _ ⟨he, hm⟩ => ⟨he, n, hm.symm⟩
set_option maxHeartbeats 400000 in
theorem jdItem_any (w : World) (A : Option Addr) (n c : Nat) (l : List Int) (a : Nat) (ha : RdI w A n l) (hn : n ≤ 9) (han : a < n) (hb : ∀ x ∈ l, -5 ≤ x ∧ x ≤ 5) :
    Calls Try.prog 30 #[.slice A n c, .int .i64 a] w fun e w' => e = .returned (.int .i64 (devI l a)) ∧ w = w' := by
  have Hl := Lib.hid ha.len
  have hab := atI_bd (a := a) hb (by omega) (by rw [Hl.out]; omega)
  have hD : devI l a = n * atI l a - sumTo l n := by rw [devI, Hl.out]
  rw [hD]
  clear hD
  go_enter Try.func30, Try.ntmps30
  go_wp2
  go_loop [5, 7, 10] (fun t _ i => ∃ k : Nat, k ≤ n ∧ i = .int .i64 k ∧ t = .int .i64 (sumTo l k)) (fun _ _ i => n - (intOf i).toNat)
  case atStart => exact ⟨0, by omega, rfl, rfl⟩
  case round =>
    obtain ⟨k, hk, rfl, rfl⟩ := hrel
    obtain ⟨b, off, rfl, hb0, hc⟩ := ha.open_ (by omega)
    have s1 := sumTo_bd5 hb k (by rw [Hl.out]; exact hk) (by rw [Hl.out]; exact hn)
    by_cases hlt : k < n
    · have hck := hc k hlt
      rw [List.getD_eq_getElem?_getD] at hck
      have h2 := hb _ (getD_mem 0 l k (by rw [Hl.out]; exact hlt))
      have HS := Lib.hid (sumTo_succ l k (by rw [Hl.out]; exact hlt))
      clear hc
      generalize l[k]?.getD 0 = x at *
      generalize sumTo l k = s at *
      go_wp2
      go_round
      case rel => exact ⟨k + 1, by omega, by go_num, by rw [HS.out]⟩
      case measure => simp [intOf]; omega
    · have hkn := Lib.hid (show k = n by omega)
      have hca : w.cell? ⟨b, off + a, none⟩ = some (.int .i64 (atI l a)) := by have := hc a han; rw [List.getD_eq_getElem?_getD] at this; exact this
      clear hc
      rw [hkn.out] at s1 ⊢
      obtain ⟨x, hx⟩ : ∃ x, atI l a = x := ⟨_, rfl⟩
      obtain ⟨s, hs⟩ : ∃ s, sumTo l n = s := ⟨_, rfl⟩
      rw [hx] at hca hab
      rw [hs] at s1 ⊢
      have HX := Lib.hid hx
      have HS := Lib.hid hs
      clear hx hs
      have m1 := mul_bdR (a := x) (b := n) (A := 5) (B := 9) hab.1 hab.2 (by omega) (by omega)
      go_wp2
      go_ret
      exact ⟨ret_int (by rw [HX.out, HS.out]), rfl⟩
set_option maxHeartbeats 400000 in
theorem deviationOf_any (w : World) (A : Option Addr) (n c : Nat) (l : List Int) (a : Nat) (ha : RdI w A n l) (hn : n ≤ 9) (han : a < n) (hb : ∀ x ∈ l, -5 ≤ x ∧ x ≤ 5) :
    Calls Try.prog 27 #[.slice A n c, .int .i64 a] w fun e w' => e = .returned (.int .i64 (devI l a)) ∧ ∃ x, w' = ext w x := by
  have Hl := Lib.hid ha.len
  have hab := atI_bd (a := a) hb (by omega) (by rw [Hl.out]; omega)
  have hD : devI l a = n * atI l a - sumTo l n := by rw [devI, Hl.out]
  rw [hD]
  clear hD
  have s1 := sumTo_bd5 hb n (by rw [Hl.out]; exact Nat.le_refl _) (by rw [Hl.out]; exact hn)
  have ha0 := ha
  have cs := fun w' (h : RdI w' A n l) => sumInts_any w' A n c l h (by omega) (fun x hx => by have := hb x hx; omega)
  obtain ⟨b, off, rfl, hb0, hc⟩ := ha.open_ (by omega)
  have hca : w.cell? ⟨b, off + a, none⟩ = some (.int .i64 (atI l a)) := by have := hc a han; rw [List.getD_eq_getElem?_getD] at this; exact this
  clear hc
  generalize atI l a = x at *
  generalize sumTo l n = s at *
  have m1 := mul_bdR (a := x) (b := n) (A := 5) (B := 9) hab.1 hab.2 (by omega) (by omega)
  have han' : (a : Int) < n := by omega
  go_enter Try.func27, Try.ntmps27
  go_wp2
  go_quiet ((go_at_call 51; exact quietL (cs _ (ha0.below (bDrewN (Below.refl _ _) _)))))
  go_wp2
  go_ret
  exact ⟨rfl, ext_ex (by repeat (first | exact Below.refl _ _ | assumption | refine bExt ?_ _ | refine bAlloc ?_ _ | refine bDrewN ?_ _ | refine bDrew ?_ | refine bSet ?_ (by first | exact Nat.le_refl _ | omega | (simp; done) | (simp; omega)) _))⟩
theorem l1Sign_any (x : Int) (w : World) :
    Calls Try.prog 40 #[.int .i64 x] w fun e w' => e = .returned (.int .i64 (sgnI x)) ∧ w = w' := by
  unfold sgnI
  by_cases h1 : 0 < x
  · rw [if_pos h1]
    go_enter Try.func40, Try.ntmps40
    go_wp2
    go_ret
    exact ⟨rfl, rfl⟩
  · rw [if_neg h1]
    by_cases h2 : x < 0
    · rw [if_pos h2]
      go_enter Try.func40, Try.ntmps40
      go_wp2
      go_ret
      exact ⟨rfl, rfl⟩
    · rw [if_neg h2]
      go_enter Try.func40, Try.ntmps40
      go_wp2
      go_ret
      exact ⟨rfl, rfl⟩
theorem signOf_any (x : Int) (w : World) :
    Calls Try.prog 39 #[.int .i64 x] w fun e w' => e = .returned (.int .i64 (sgnI x)) ∧ w = w' := by
  unfold sgnI
  by_cases h1 : 0 < x
  · rw [if_pos h1]
    go_enter Try.func39, Try.ntmps39
    go_wp2
    go_ret
    exact ⟨rfl, rfl⟩
  · rw [if_neg h1]
    by_cases h2 : x < 0
    · rw [if_pos h2]
      go_enter Try.func39, Try.ntmps39
      go_wp2
      go_ret
      exact ⟨rfl, rfl⟩
    · rw [if_neg h2]
      go_enter Try.func39, Try.ntmps39
      go_wp2
      go_ret
      exact ⟨rfl, rfl⟩
def agOk (gg kk : List (List Int)) (a b : Int) : Bool := judgeB gg kk a && judgeB gg kk b
def agV (gg kk : List (List Int)) (a b : Int) : Int := if agOk gg kk a b then agreeU gg a b gg.length else 0
def dvA (gg kk : List (List Int)) (a : Int) : Int := if judgeB gg kk a then devU gg a gg.length else 0
def dvB (gg kk : List (List Int)) (a : Int) : Int := if judgeB gg kk a then absU gg a gg.length else 0
def oaV (gg kk : List (List Int)) (a b s : Int) : Int := if agOk gg kk a b then ordU gg a b s gg.length else 0
theorem ag_no {gg kk : List (List Int)} {a b : Int} (h : agOk gg kk a b = false) : agV gg kk a b = 0 := by simp [agV, h]
theorem dv_no {gg kk : List (List Int)} {a : Int} (h : judgeB gg kk a = false) : dvA gg kk a = 0 ∧ dvB gg kk a = 0 := by simp [dvA, dvB, h]
theorem oa_no {gg kk : List (List Int)} {a b s : Int} (h : agOk gg kk a b = false) : oaV gg kk a b s = 0 := by simp [oaV, h]
theorem ag_yes {gg kk : List (List Int)} {a b : Int} (h : agOk gg kk a b = true) : agV gg kk a b = agreeU gg a b gg.length := by simp [agV, h]
theorem dv_yes {gg kk : List (List Int)} {a : Int} (h : judgeB gg kk a = true) : dvA gg kk a = devU gg a gg.length ∧ dvB gg kk a = absU gg a gg.length := by simp [dvA, dvB, h]
theorem oa_yes {gg kk : List (List Int)} {a b s : Int} (h : agOk gg kk a b = true) : oaV gg kk a b s = ordU gg a b s gg.length := by simp [oaV, h]
theorem agOk_of {gg kk : List (List Int)} {a b : Int} (h : agOk gg kk a b = true) : judgeB gg kk a = true ∧ judgeB gg kk b = true := by simpa [agOk] using h
/-- What is known of a row of valid marks, and of two judges' marks in it. -/
theorem row_facts {w : World} {A B : Option Addr} {n m : Nat} {gg kk : List (List Int)} {a a' : Nat} (hm : RdMk w A n B m gg kk) (hj : judgeB gg kk a = true) (hj' : judgeB gg kk a' = true) (k : Nat) (hk : k < n) :
    ∃ b off B1 m1 d1 b1 o1, A = some ⟨b, off, none⟩ ∧ b < w.heap.size ∧ w.cell? ⟨b, off + k, none⟩ = some (.slice B1 m1 d1) ∧ B1 = some ⟨b1, o1, none⟩ ∧ b1 < w.heap.size ∧ a < m1 ∧ a' < m1 ∧ (∀ j, j < m1 → w.cell? ⟨b1, o1 + j, none⟩ = some (.int .i64 (atI (rowOf gg k) j))) ∧
      RdI w B1 m1 (rowOf gg k) ∧ m1 ≤ 9 ∧ (∀ x ∈ rowOf gg k, -5 ≤ x ∧ x ≤ 5) := by
  obtain ⟨h1, _, h2⟩ := judgeB_of hj
  obtain ⟨_, _, h3⟩ := judgeB_of hj'
  obtain ⟨_, _, h5, h6⟩ := marksB_of h1
  obtain ⟨b, off, B1, m1, d1, e, hb, hc, hr, _, _⟩ := hm.1.at_ k hk
  obtain ⟨h7, h8⟩ := h6 k (by rw [hm.1.len]; exact hk)
  have hml := hr.len
  obtain ⟨b1, o1, e1, hb1, hc1⟩ := hr.open_ (by omega)
  exact ⟨b, off, B1, m1, d1, b1, o1, e, hb, hc, e1, hb1, by omega, by omega, fun j hj => by have := hc1 j hj; rw [List.getD_eq_getElem?_getD] at this; exact this, hr, by omega, h8⟩
theorem judgeB_nn {gg kk : List (List Int)} {a : Int} (h : judgeB gg kk a = true) : ∃ a' : Nat, a = a' := ⟨a.toNat, by have := (judgeB_of h).2.1; omega⟩
theorem judgeB_14 {w : World} {A B : Option Addr} {n m : Nat} {gg kk : List (List Int)} {a : Int} (hm : RdMk w A n B m gg kk) (h : judgeB gg kk a = true) : n ≤ 14 := by
  have := (marksB_of (judgeB_of h).1).2.1
  rw [hm.1.len] at this; exact this
set_option maxHeartbeats 1000000 in
theorem specAgreementOf_any (w : World) (A B : Option Addr) (n m c d : Nat) (gg kk : List (List Int)) (hm : RdMk w A n B m gg kk) (a b : Int) :
    Calls Try.prog 13 #[.agg #[.slice A n c, .slice B m d], .int .i64 a, .int .i64 b] w fun e w' => e = .returned (.tuple #[.int .i64 (agV gg kk a b), .bool (agOk gg kk a b)]) ∧ ∃ x, w' = ext w x := by
  have Hl := Lib.hid hm.1.len
  cases hk : agOk gg kk a b
  · rw [ag_no hk]
    unfold agOk at hk
    go_enter Try.func13, Try.ntmps13
    go_wp2_with (first | (go_at_call 38; ((with_reducible refine (jdTwo_any _ _ _ _ _ _ _ _ _ (hm.below (by repeat (first | exact Below.refl _ _ | assumption | refine bExt ?_ _ | refine bAlloc ?_ _ | refine bDrewN ?_ _ | refine bDrew ?_ | refine bSet ?_ (by first | exact Nat.le_refl _ | omega | (simp; done) | (simp; omega)) _))) _ _).mono ?_); rintro e w' ⟨rfl, x, rfl⟩)))
    all_goals first | (go_ret2; exact ⟨rfl, ext_ex (by repeat (first | exact Below.refl _ _ | assumption | refine bExt ?_ _ | refine bAlloc ?_ _ | refine bDrewN ?_ _ | refine bDrew ?_ | refine bSet ?_ (by first | exact Nat.le_refl _ | omega | (simp; done) | (simp; omega)) _))⟩) | (exfalso; simp_all)
  · rw [ag_yes hk, Hl.out]
    obtain ⟨ha, hb⟩ := agOk_of hk
    have h14 := judgeB_14 hm ha
    obtain ⟨a, rfl⟩ := judgeB_nn ha
    obtain ⟨b, rfl⟩ := judgeB_nn hb
    clear hk
    go_enter Try.func13, Try.ntmps13
    go_wp2_with (first | (go_at_call 38; ((with_reducible refine (jdTwo_any _ _ _ _ _ _ _ _ _ (hm.below (by repeat (first | exact Below.refl _ _ | assumption | refine bExt ?_ _ | refine bAlloc ?_ _ | refine bDrewN ?_ _ | refine bDrew ?_ | refine bSet ?_ (by first | exact Nat.le_refl _ | omega | (simp; done) | (simp; omega)) _))) _ _).mono ?_); rintro e w' ⟨rfl, x, rfl⟩)))
    go_loopw [8, 19] (fun t i wr => ∃ (k : Nat) (x : World), k ≤ n ∧ i = .int .i64 k ∧ t = .int .i64 (agreeU gg a b k) ∧ wr = ext (w.alloc (.cells #[.slice A n c, .slice B m d] 25)) x) (fun _ i _ => n - (intOf i).toNat)
    case atStart => exact ⟨0, _, by omega, rfl, rfl, (ext_ex (by repeat (first | exact Below.refl _ _ | assumption | refine bExt ?_ _ | refine bAlloc ?_ _ | refine bDrewN ?_ _ | refine bDrew ?_ | refine bSet ?_ (by first | exact Nat.le_refl _ | omega | (simp; done) | (simp; omega)) _))).choose_spec⟩
    case round =>
      obtain ⟨k, x, hk, rfl, rfl, rfl⟩ := hrel
      have hu := agreeU_bd gg a b k (by omega)
      by_cases hlt : k < n
      · obtain ⟨b0, off, B1, m1, d1, b1, o1, rfl, hb0, hc0, rfl, hb1, ham, hbm, hcs, hr, h9, hbd⟩ := row_facts hm ha hb k hlt
        have hbm' : (b : Int) < m1 := by omega
        have ham' : (a : Int) < m1 := by omega
        have hca := hcs a ham
        have hcb := hcs b (by omega)
        have HS := Lib.hid (show agreeU gg a b (k + 1) = agreeU gg a b k + boolN (atI (rowOf gg k) a == atI (rowOf gg k) b) from rfl)
        clear hcs hr hbd
        generalize agreeU gg a b k = u at *
        generalize atI (rowOf gg k) a = xa at *
        generalize atI (rowOf gg k) b = xb at *
        go_wp2
        go_quiet (fail)
        cases hq : (xa == xb)
        · rw [hq] at HS
          go_wp2
          go_roundw
          case rel => exact ⟨k + 1, _, by omega, by go_num, by rw [HS.out]; simp [boolN], (ext_ex (by repeat (first | exact Below.refl _ _ | assumption | refine bExt ?_ _ | refine bAlloc ?_ _ | refine bDrewN ?_ _ | refine bDrew ?_ | refine bSet ?_ (by first | exact Nat.le_refl _ | omega | (simp; done) | (simp; omega)) _))).choose_spec⟩
          case measure => simp [intOf]; omega
        · rw [hq] at HS
          go_wp2
          go_roundw
          case rel => exact ⟨k + 1, _, by omega, by go_num, by rw [HS.out]; simp [boolN], (ext_ex (by repeat (first | exact Below.refl _ _ | assumption | refine bExt ?_ _ | refine bAlloc ?_ _ | refine bDrewN ?_ _ | refine bDrew ?_ | refine bSet ?_ (by first | exact Nat.le_refl _ | omega | (simp; done) | (simp; omega)) _))).choose_spec⟩
          case measure => simp [intOf]; omega
      · have hkn := Lib.hid (show k = n by omega)
        go_wp2
        go_ret2
        exact ⟨ret_intB' (by rw [hkn.out]), ext_ex (by repeat (first | exact Below.refl _ _ | assumption | refine bExt ?_ _ | refine bAlloc ?_ _ | refine bDrewN ?_ _ | refine bDrew ?_ | refine bSet ?_ (by first | exact Nat.le_refl _ | omega | (simp; done) | (simp; omega)) _))⟩
set_option maxHeartbeats 1000000 in
theorem implAgreementOf_any (w : World) (A B : Option Addr) (n m c d : Nat) (gg kk : List (List Int)) (hm : RdMk w A n B m gg kk) (a b : Int) :
    Calls Try.prog 12 #[.agg #[.slice A n c, .slice B m d], .int .i64 a, .int .i64 b] w fun e w' => e = .returned (.tuple #[.int .i64 (agV gg kk a b), .bool (agOk gg kk a b)]) ∧ ∃ x, w' = ext w x := by
  have Hl := Lib.hid hm.1.len
  cases hk : agOk gg kk a b
  · rw [ag_no hk]
    unfold agOk at hk
    go_enter Try.func12, Try.ntmps12
    go_wp2_with (first | (go_at_call 26; ((with_reducible refine (isJudge_any _ _ _ _ _ _ _ _ _ (hm.below (by repeat (first | exact Below.refl _ _ | assumption | refine bExt ?_ _ | refine bAlloc ?_ _ | refine bDrewN ?_ _ | refine bDrew ?_ | refine bSet ?_ (by first | exact Nat.le_refl _ | omega | (simp; done) | (simp; omega)) _))) _).mono ?_); rintro e w' ⟨rfl, x, rfl⟩)))
    all_goals first | (go_ret2; exact ⟨rfl, ext_ex (by repeat (first | exact Below.refl _ _ | assumption | refine bExt ?_ _ | refine bAlloc ?_ _ | refine bDrewN ?_ _ | refine bDrew ?_ | refine bSet ?_ (by first | exact Nat.le_refl _ | omega | (simp; done) | (simp; omega)) _))⟩) | (exfalso; simp_all)
  · rw [ag_yes hk, Hl.out]
    obtain ⟨ha, hb⟩ := agOk_of hk
    have h14 := judgeB_14 hm ha
    obtain ⟨a, rfl⟩ := judgeB_nn ha
    obtain ⟨b, rfl⟩ := judgeB_nn hb
    clear hk
    go_enter Try.func12, Try.ntmps12
    go_wp2_with (first | (go_at_call 26; ((with_reducible refine (isJudge_any _ _ _ _ _ _ _ _ _ (hm.below (by repeat (first | exact Below.refl _ _ | assumption | refine bExt ?_ _ | refine bAlloc ?_ _ | refine bDrewN ?_ _ | refine bDrew ?_ | refine bSet ?_ (by first | exact Nat.le_refl _ | omega | (simp; done) | (simp; omega)) _))) _).mono ?_); rintro e w' ⟨rfl, x, rfl⟩)))
    go_loopw [8, 24] (fun t i wr => ∃ (k : Nat) (x : World), k ≤ n ∧ i = .int .i64 k ∧ t = .int .i64 (agreeU gg a b k) ∧ wr = ext (w.alloc (.cells #[.slice A n c, .slice B m d] 25)) x) (fun _ i _ => n - (intOf i).toNat)
    case atStart => exact ⟨0, _, by omega, rfl, rfl, (ext_ex (by repeat (first | exact Below.refl _ _ | assumption | refine bExt ?_ _ | refine bAlloc ?_ _ | refine bDrewN ?_ _ | refine bDrew ?_ | refine bSet ?_ (by first | exact Nat.le_refl _ | omega | (simp; done) | (simp; omega)) _))).choose_spec⟩
    case round =>
      obtain ⟨k, x, hk, rfl, rfl, rfl⟩ := hrel
      have hu := agreeU_bd gg a b k (by omega)
      by_cases hlt : k < n
      · obtain ⟨b0, off, B1, m1, d1, b1, o1, rfl, hb0, hc0, rfl, hb1, ham, hbm, hcs, hr, h9, hbd⟩ := row_facts hm ha hb k hlt
        have hbm' : (b : Int) < m1 := by omega
        have ham' : (a : Int) < m1 := by omega
        have hca := hcs a ham
        have hcb := hcs b (by omega)
        have HS := Lib.hid (show agreeU gg a b (k + 1) = agreeU gg a b k + boolN (atI (rowOf gg k) a == atI (rowOf gg k) b) from rfl)
        clear hcs hr hbd
        generalize agreeU gg a b k = u at *
        generalize atI (rowOf gg k) a = xa at *
        generalize atI (rowOf gg k) b = xb at *
        go_wp2
        go_quiet (fail)
        cases hq : (xa == xb)
        · rw [hq] at HS
          go_wp2
          go_roundw
          case rel => exact ⟨k + 1, _, by omega, by go_num, by rw [HS.out]; simp [boolN], (ext_ex (by repeat (first | exact Below.refl _ _ | assumption | refine bExt ?_ _ | refine bAlloc ?_ _ | refine bDrewN ?_ _ | refine bDrew ?_ | refine bSet ?_ (by first | exact Nat.le_refl _ | omega | (simp; done) | (simp; omega)) _))).choose_spec⟩
          case measure => simp [intOf]; omega
        · rw [hq] at HS
          go_wp2
          go_roundw
          case rel => exact ⟨k + 1, _, by omega, by go_num, by rw [HS.out]; simp [boolN], (ext_ex (by repeat (first | exact Below.refl _ _ | assumption | refine bExt ?_ _ | refine bAlloc ?_ _ | refine bDrewN ?_ _ | refine bDrew ?_ | refine bSet ?_ (by first | exact Nat.le_refl _ | omega | (simp; done) | (simp; omega)) _))).choose_spec⟩
          case measure => simp [intOf]; omega
      · have hkn := Lib.hid (show k = n by omega)
        go_wp2
        go_ret2
        exact ⟨ret_intB' (by rw [hkn.out]), ext_ex (by repeat (first | exact Below.refl _ _ | assumption | refine bExt ?_ _ | refine bAlloc ?_ _ | refine bDrewN ?_ _ | refine bDrew ?_ | refine bSet ?_ (by first | exact Nat.le_refl _ | omega | (simp; done) | (simp; omega)) _))⟩
theorem dev_bds {w : World} {A B : Option Addr} {n m : Nat} {gg kk : List (List Int)} {a : Nat} (hm : RdMk w A n B m gg kk) (hj : judgeB gg kk a = true) {k : Nat} (hk : k ≤ n) :
    (-(14 * 90) ≤ devU gg a k ∧ devU gg a k ≤ 14 * 90) ∧ (-(14 * 90) ≤ absU gg a k ∧ absU gg a k ≤ 14 * 90) := by
  have h14 := judgeB_14 hm hj
  have hd : ∀ i, i < k → -90 ≤ devI (rowOf gg i) a ∧ devI (rowOf gg i) a ≤ 90 := fun i hi => by
    obtain ⟨_, _, _, m1, _, _, _, _, _, _, _, _, ham, _, _, hr, h9, hbd⟩ := row_facts hm hj hj i (by omega)
    exact devI_bd hbd (by omega) (by rw [hr.len]; omega) (by rw [hr.len]; omega)
  exact ⟨sumUp_bd14 (B := 90) (by omega) k (by omega) hd, sumUp_bd14 (B := 90) (by omega) k (by omega) fun i hi => by have := hd i hi; unfold absM; omega⟩
set_option maxHeartbeats 1000000 in
theorem specDeviationOf_any (w : World) (A B : Option Addr) (n m c d : Nat) (gg kk : List (List Int)) (hm : RdMk w A n B m gg kk) (a : Int) :
    Calls Try.prog 6 #[.agg #[.slice A n c, .slice B m d], .int .i64 a] w fun e w' => e = .returned (.tuple #[.int .i64 (dvA gg kk a), .int .i64 (dvB gg kk a), .bool (judgeB gg kk a)]) ∧ ∃ x, w' = ext w x := by
  have Hl := Lib.hid hm.1.len
  cases hk : judgeB gg kk a
  · rw [(dv_no hk).1, (dv_no hk).2]
    go_enter Try.func6, Try.ntmps6
    go_wp2_with (first | (go_at_call 29; ((with_reducible refine (mkHas_any _ _ _ _ _ _ _ _ _ (hm.below (by repeat (first | exact Below.refl _ _ | assumption | refine bExt ?_ _ | refine bAlloc ?_ _ | refine bDrewN ?_ _ | refine bDrew ?_ | refine bSet ?_ (by first | exact Nat.le_refl _ | omega | (simp; done) | (simp; omega)) _))) _).mono ?_); rintro e w' ⟨rfl, x, rfl⟩)))
    go_ret3
    exact ⟨rfl, ext_ex (by repeat (first | exact Below.refl _ _ | assumption | refine bExt ?_ _ | refine bAlloc ?_ _ | refine bDrewN ?_ _ | refine bDrew ?_ | refine bSet ?_ (by first | exact Nat.le_refl _ | omega | (simp; done) | (simp; omega)) _))⟩
  · rw [(dv_yes hk).1, (dv_yes hk).2, Hl.out]
    have h14 := judgeB_14 hm hk
    obtain ⟨a, rfl⟩ := judgeB_nn hk
    go_enter Try.func6, Try.ntmps6
    go_wp2_with (first | (go_at_call 29; ((with_reducible refine (mkHas_any _ _ _ _ _ _ _ _ _ (hm.below (by repeat (first | exact Below.refl _ _ | assumption | refine bExt ?_ _ | refine bAlloc ?_ _ | refine bDrewN ?_ _ | refine bDrew ?_ | refine bSet ?_ (by first | exact Nat.le_refl _ | omega | (simp; done) | (simp; omega)) _))) _).mono ?_); rintro e w' ⟨rfl, x, rfl⟩)))
    go_loopw [7, 8, 18] (fun t u i wr => ∃ (k : Nat) (x : World), k ≤ n ∧ i = .int .i64 k ∧ t = .int .i64 (devU gg a k) ∧ u = .int .i64 (absU gg a k) ∧ (-(14 * 90) ≤ devU gg a k ∧ devU gg a k ≤ 14 * 90) ∧ (-(14 * 90) ≤ absU gg a k ∧ absU gg a k ≤ 14 * 90) ∧ wr = ext (w.alloc (.cells #[.slice A n c, .slice B m d] 25)) x) (fun _ _ i _ => n - (intOf i).toNat)
    case atStart => exact ⟨0, _, by omega, rfl, rfl, rfl, by simp [devU, sumUp], by simp [absU, sumUp], (ext_ex (by repeat (first | exact Below.refl _ _ | assumption | refine bExt ?_ _ | refine bAlloc ?_ _ | refine bDrewN ?_ _ | refine bDrew ?_ | refine bSet ?_ (by first | exact Nat.le_refl _ | omega | (simp; done) | (simp; omega)) _))).choose_spec⟩
    case round =>
      obtain ⟨k, x, hkn, rfl, rfl, rfl, hb1, hb2, rfl⟩ := hrel
      by_cases hlt : k < n
      · have Hf := dev_bds (k := k + 1) hm hk (by omega)
        obtain ⟨b0, off, B1, m1, d1, b1, o1, rfl, hb0, hc0, rfl, hb1', ham, _, hcs, hr, h9, hbd⟩ := row_facts hm hk hk k hlt
        have hdv := devI_bd (l := rowOf gg k) (a := a) hbd (by omega) (by rw [hr.len]; omega) (by rw [hr.len]; omega)
        have HS1 := Lib.hid (show devU gg a (k + 1) = devU gg a k + devI (rowOf gg k) a from rfl)
        have HS2 := Lib.hid (show absU gg a (k + 1) = absU gg a k + absM (devI (rowOf gg k) a) from rfl)
        have Hf := Lib.hid Hf
        clear hcs
        have hab : -90 ≤ absI (devI (rowOf gg k) a) ∧ absI (devI (rowOf gg k) a) ≤ 90 := by unfold absI; omega
        generalize devU gg a k = u at *
        generalize absU gg a k = v at *
        generalize rowOf gg k = lk at *
        go_wp2_with (first | (go_at_call 30; ((with_reducible refine (jdItem_any _ _ _ _ _ _ (hr.below (by repeat (first | exact Below.refl _ _ | assumption | refine bExt ?_ _ | refine bAlloc ?_ _ | refine bDrewN ?_ _ | refine bDrew ?_ | refine bSet ?_ (by first | exact Nat.le_refl _ | omega | (simp; done) | (simp; omega)) _))) h9 ham hbd).mono ?_); rintro e w' ⟨rfl, rfl⟩)) | (go_at_call 31; ((with_reducible refine (l1Abs_any _ _ (by omega) (by omega)).mono ?_); rintro e w' ⟨rfl, rfl⟩)))
        go_roundw
        case rel => exact ⟨k + 1, _, by omega, by go_num, by rw [HS1.out], by rw [HS2.out]; rfl, Hf.out.1, Hf.out.2, (ext_ex (by repeat (first | exact Below.refl _ _ | assumption | refine bExt ?_ _ | refine bAlloc ?_ _ | refine bDrewN ?_ _ | refine bDrew ?_ | refine bSet ?_ (by first | exact Nat.le_refl _ | omega | (simp; done) | (simp; omega)) _))).choose_spec⟩
        case measure => simp [intOf]; omega
      · have hkn := Lib.hid (show k = n by omega)
        go_wp2
        go_ret3
        exact ⟨ret_int2B (by rw [hkn.out]) (by rw [hkn.out]), ext_ex (by repeat (first | exact Below.refl _ _ | assumption | refine bExt ?_ _ | refine bAlloc ?_ _ | refine bDrewN ?_ _ | refine bDrew ?_ | refine bSet ?_ (by first | exact Nat.le_refl _ | omega | (simp; done) | (simp; omega)) _))⟩
set_option maxHeartbeats 1000000 in
theorem implDeviationOf_any (w : World) (A B : Option Addr) (n m c d : Nat) (gg kk : List (List Int)) (hm : RdMk w A n B m gg kk) (a : Int) :
    Calls Try.prog 5 #[.agg #[.slice A n c, .slice B m d], .int .i64 a] w fun e w' => e = .returned (.tuple #[.int .i64 (dvA gg kk a), .int .i64 (dvB gg kk a), .bool (judgeB gg kk a)]) ∧ ∃ x, w' = ext w x := by
  have Hl := Lib.hid hm.1.len
  cases hk : judgeB gg kk a
  · rw [(dv_no hk).1, (dv_no hk).2]
    go_enter Try.func5, Try.ntmps5
    go_wp2_with (first | (go_at_call 26; ((with_reducible refine (isJudge_any _ _ _ _ _ _ _ _ _ (hm.below (by repeat (first | exact Below.refl _ _ | assumption | refine bExt ?_ _ | refine bAlloc ?_ _ | refine bDrewN ?_ _ | refine bDrew ?_ | refine bSet ?_ (by first | exact Nat.le_refl _ | omega | (simp; done) | (simp; omega)) _))) _).mono ?_); rintro e w' ⟨rfl, x, rfl⟩)))
    go_ret3
    exact ⟨rfl, ext_ex (by repeat (first | exact Below.refl _ _ | assumption | refine bExt ?_ _ | refine bAlloc ?_ _ | refine bDrewN ?_ _ | refine bDrew ?_ | refine bSet ?_ (by first | exact Nat.le_refl _ | omega | (simp; done) | (simp; omega)) _))⟩
  · rw [(dv_yes hk).1, (dv_yes hk).2, Hl.out]
    have h14 := judgeB_14 hm hk
    obtain ⟨a, rfl⟩ := judgeB_nn hk
    go_enter Try.func5, Try.ntmps5
    go_wp2_with (first | (go_at_call 26; ((with_reducible refine (isJudge_any _ _ _ _ _ _ _ _ _ (hm.below (by repeat (first | exact Below.refl _ _ | assumption | refine bExt ?_ _ | refine bAlloc ?_ _ | refine bDrewN ?_ _ | refine bDrew ?_ | refine bSet ?_ (by first | exact Nat.le_refl _ | omega | (simp; done) | (simp; omega)) _))) _).mono ?_); rintro e w' ⟨rfl, x, rfl⟩)))
    go_loopw [7, 8, 19] (fun t u i wr => ∃ (k : Nat) (x : World), k ≤ n ∧ i = .int .i64 k ∧ t = .int .i64 (devU gg a k) ∧ u = .int .i64 (absU gg a k) ∧ (-(14 * 90) ≤ devU gg a k ∧ devU gg a k ≤ 14 * 90) ∧ (-(14 * 90) ≤ absU gg a k ∧ absU gg a k ≤ 14 * 90) ∧ wr = ext (w.alloc (.cells #[.slice A n c, .slice B m d] 25)) x) (fun _ _ i _ => n - (intOf i).toNat)
    case atStart => exact ⟨0, _, by omega, rfl, rfl, rfl, by simp [devU, sumUp], by simp [absU, sumUp], (ext_ex (by repeat (first | exact Below.refl _ _ | assumption | refine bExt ?_ _ | refine bAlloc ?_ _ | refine bDrewN ?_ _ | refine bDrew ?_ | refine bSet ?_ (by first | exact Nat.le_refl _ | omega | (simp; done) | (simp; omega)) _))).choose_spec⟩
    case round =>
      obtain ⟨k, x, hkn, rfl, rfl, rfl, hb1, hb2, rfl⟩ := hrel
      by_cases hlt : k < n
      · have Hf := dev_bds (k := k + 1) hm hk (by omega)
        obtain ⟨b0, off, B1, m1, d1, b1, o1, rfl, hb0, hc0, rfl, hb1', ham, _, hcs, hr, h9, hbd⟩ := row_facts hm hk hk k hlt
        have hdv := devI_bd (l := rowOf gg k) (a := a) hbd (by omega) (by rw [hr.len]; omega) (by rw [hr.len]; omega)
        have HS1 := Lib.hid (show devU gg a (k + 1) = devU gg a k + devI (rowOf gg k) a from rfl)
        have HS2 := Lib.hid (show absU gg a (k + 1) = absU gg a k + absM (devI (rowOf gg k) a) from rfl)
        have Hf := Lib.hid Hf
        clear hcs
        have hab : -90 ≤ max (devI (rowOf gg k) a) (-(devI (rowOf gg k) a)) ∧ max (devI (rowOf gg k) a) (-(devI (rowOf gg k) a)) ≤ 90 := by omega
        generalize devU gg a k = u at *
        generalize absU gg a k = v at *
        generalize rowOf gg k = lk at *
        go_wp2_with (first | (go_at_call 27; ((with_reducible refine (deviationOf_any _ _ _ _ _ _ (hr.below (by repeat (first | exact Below.refl _ _ | assumption | refine bExt ?_ _ | refine bAlloc ?_ _ | refine bDrewN ?_ _ | refine bDrew ?_ | refine bSet ?_ (by first | exact Nat.le_refl _ | omega | (simp; done) | (simp; omega)) _))) h9 ham hbd).mono ?_); rintro e w' ⟨rfl, y, rfl⟩)) | (go_at_call 28; ((with_reducible refine (absOf_any _ _ (by omega) (by omega)).mono ?_); rintro e w' ⟨rfl, rfl⟩)))
        go_roundw
        case rel => exact ⟨k + 1, _, by omega, by go_num, by rw [HS1.out], by rw [HS2.out]; rfl, Hf.out.1, Hf.out.2, (ext_ex (by repeat (first | exact Below.refl _ _ | assumption | refine bExt ?_ _ | refine bAlloc ?_ _ | refine bDrewN ?_ _ | refine bDrew ?_ | refine bSet ?_ (by first | exact Nat.le_refl _ | omega | (simp; done) | (simp; omega)) _))).choose_spec⟩
        case measure => simp [intOf]; omega
      · have hkn := Lib.hid (show k = n by omega)
        go_wp2
        go_ret3
        exact ⟨ret_int2B (by rw [hkn.out]) (by rw [hkn.out]), ext_ex (by repeat (first | exact Below.refl _ _ | assumption | refine bExt ?_ _ | refine bAlloc ?_ _ | refine bDrewN ?_ _ | refine bDrew ?_ | refine bSet ?_ (by first | exact Nat.le_refl _ | omega | (simp; done) | (simp; omega)) _))⟩
set_option maxHeartbeats 2000000 in
theorem specOrderAgreement_any (w : World) (A B : Option Addr) (n m c d : Nat) (gg kk : List (List Int)) (hm : RdMk w A n B m gg kk) (hnc : n ≤ c) (a b : Int) :
    Calls Try.prog 15 #[.agg #[.slice A n c, .slice B m d], .int .i64 a, .int .i64 b] w fun e w' => e = .returned (.tuple #[.int .i64 (oaV gg kk a b 1), .int .i64 (oaV gg kk a b (-1)), .bool (agOk gg kk a b)]) ∧ ∃ x, w' = ext w x := by
  have Hl := Lib.hid hm.1.len
  cases hk : agOk gg kk a b
  · rw [oa_no hk, oa_no hk]
    unfold agOk at hk
    go_enter Try.func15, Try.ntmps15
    go_wp2_with (first | (go_at_call 38; ((with_reducible refine (jdTwo_any _ _ _ _ _ _ _ _ _ (hm.below (by repeat (first | exact Below.refl _ _ | assumption | refine bExt ?_ _ | refine bAlloc ?_ _ | refine bDrewN ?_ _ | refine bDrew ?_ | refine bSet ?_ (by first | exact Nat.le_refl _ | omega | (simp; done) | (simp; omega)) _))) _ _).mono ?_); rintro e w' ⟨rfl, x, rfl⟩)))
    all_goals first | (go_ret3; exact ⟨rfl, ext_ex (by repeat (first | exact Below.refl _ _ | assumption | refine bExt ?_ _ | refine bAlloc ?_ _ | refine bDrewN ?_ _ | refine bDrew ?_ | refine bSet ?_ (by first | exact Nat.le_refl _ | omega | (simp; done) | (simp; omega)) _))⟩) | (exfalso; simp_all)
  · rw [oa_yes hk, oa_yes hk, Hl.out]
    obtain ⟨ha, hb⟩ := agOk_of hk
    have h14 := judgeB_14 hm ha
    obtain ⟨a, rfl⟩ := judgeB_nn ha
    obtain ⟨b, rfl⟩ := judgeB_nn hb
    clear hk
    go_enter Try.func15, Try.ntmps15
    go_wp2_with (first | (go_at_call 38; ((with_reducible refine (jdTwo_any _ _ _ _ _ _ _ _ _ (hm.below (by repeat (first | exact Below.refl _ _ | assumption | refine bExt ?_ _ | refine bAlloc ?_ _ | refine bDrewN ?_ _ | refine bDrew ?_ | refine bSet ?_ (by first | exact Nat.le_refl _ | omega | (simp; done) | (simp; omega)) _))) _ _).mono ?_); rintro e w' ⟨rfl, x, rfl⟩)))
    go_loopw [9, 10, 23] (fun t u i wr => ∃ (k : Nat) (x : World), k ≤ n ∧ i = .int .i64 k ∧ t = .int .i64 (ordU gg a b 1 k) ∧ u = .int .i64 (ordU gg a b (-1) k) ∧ wr = ext (w.alloc (.cells #[.slice A n c, .slice B m d] 25)) x) (fun _ _ i _ => n - (intOf i).toNat)
    case atStart => exact ⟨0, _, by omega, rfl, rfl, rfl, (ext_ex (by repeat (first | exact Below.refl _ _ | assumption | refine bExt ?_ _ | refine bAlloc ?_ _ | refine bDrewN ?_ _ | refine bDrew ?_ | refine bSet ?_ (by first | exact Nat.le_refl _ | omega | (simp; done) | (simp; omega)) _))).choose_spec⟩
    case round =>
      obtain ⟨k, x, hkn, rfl, rfl, rfl, rfl⟩ := hrel
      by_cases hlt : k < n
      · have hu1 := ordU_bd gg a b 1 k (by omega)
        have hu2 := ordU_bd gg a b (-1) k (by omega)
        obtain ⟨b0, off, B1, m1, d1, b1, o1, rfl, hb0, hc0, rfl, hb1, ham, hbm, hcs, hr, h9, hbd⟩ := row_facts hm ha hb k hlt
        have hbm' : (b : Int) < m1 := by omega
        have ham' : (a : Int) < m1 := by omega
        have hca := hcs a ham
        have hcb := hcs b (by omega)
        have ba := atI_bd (a := a) hbd (by omega) (by rw [hr.len]; omega)
        have bb := atI_bd (a := b) hbd (by omega) (by rw [hr.len]; omega)
        have HU1 := Lib.hid (show ordU gg a b 1 (k + 1) = ordU gg a b 1 k + ordT gg a b 1 k k from rfl)
        have HU2 := Lib.hid (show ordU gg a b (-1) (k + 1) = ordU gg a b (-1) k + ordT gg a b (-1) k k from rfl)
        generalize ordU gg a b 1 k = u1 at *
        generalize ordU gg a b (-1) k = u2 at *
        have HI : ∀ j, Hid (ordI gg a b k j = sgnI (atI (rowOf gg k) a - atI (rowOf gg j) a) * sgnI (atI (rowOf gg k) b - atI (rowOf gg j) b)) := fun j => rfl
        have HC := ordI_cases gg a b k
        clear hcs hr hbd
        generalize atI (rowOf gg k) a = xa at *
        generalize atI (rowOf gg k) b = xb at *
        have hkc : k ≤ c := by omega
        go_wp2
        go_loopw [9, 10, 33] (fun t u i wr => ∃ (j : Nat) (x : World), j ≤ k ∧ i = .int .i64 j ∧ t = .int .i64 (u1 + ordT gg a b 1 k j) ∧ u = .int .i64 (u2 + ordT gg a b (-1) k j) ∧ wr = ext (w.alloc (.cells #[.slice (some ⟨b0, off, none⟩) n c, .slice B m d] 25)) x) (fun _ _ i _ => k - (intOf i).toNat)
        case atStart => exact ⟨0, _, by omega, rfl, by simp [ordT, sumUp], by simp [ordT, sumUp], (ext_ex (by repeat (first | exact Below.refl _ _ | assumption | refine bExt ?_ _ | refine bAlloc ?_ _ | refine bDrewN ?_ _ | refine bDrew ?_ | refine bSet ?_ (by first | exact Nat.le_refl _ | omega | (simp; done) | (simp; omega)) _))).choose_spec⟩
        case round =>
          obtain ⟨j, y, hjk, rfl, rfl, rfl, rfl⟩ := hrel
          have ht1 := ordT_bd gg a b 1 k j (by omega)
          have ht2 := ordT_bd gg a b (-1) k j (by omega)
          by_cases hjl : j < k
          · obtain ⟨b0', off', B2, m2, d2, b2, o2, he, hb0', hd0, rfl, hb2, ham2, hbm2, hcs, hr, h92, hbd⟩ := row_facts hm ha hb j (by omega)
            injection he with he; injection he with he1 he2; subst he1 he2
            have hbm2' : (b : Int) < m2 := by omega
            have ham2' : (a : Int) < m2 := by omega
            have hda := hcs a ham2
            have hdb := hcs b (by omega)
            have bya := atI_bd (a := a) hbd (by omega) (by rw [hr.len]; omega)
            have byb := atI_bd (a := b) hbd (by omega) (by rw [hr.len]; omega)
            have hi := HI j
            have hcj := HC j
            have HT1 := Lib.hid (show ordT gg a b 1 k (j + 1) = ordT gg a b 1 k j + boolN (ordI gg a b k j == 1) from rfl)
            have HT2 := Lib.hid (show ordT gg a b (-1) k (j + 1) = ordT gg a b (-1) k j + boolN (ordI gg a b k j == -1) from rfl)
            clear hcs hr hbd HI HC
            generalize ordT gg a b 1 k j = t1 at *
            generalize ordT gg a b (-1) k j = t2 at *
            generalize atI (rowOf gg j) a = ya at *
            generalize atI (rowOf gg j) b = yb at *
            generalize ordI gg a b k j = r at *
            have hi1 := hi.out
            have hi2 : sgnI (xa - ya) * sgnI (xb - yb) = r := hi1.symm
            clear hi hi1
            rcases hcj with rfl | rfl | rfl
            all_goals
              go_wp2
              go_quiet ((go_at_call 40; exact quietL (l1Sign_any _ _)))
              go_wp2
              go_roundw
              case rel => exact ⟨j + 1, _, by omega, by go_num, by rw [HT1.out]; simp [boolN]; try omega, by rw [HT2.out]; simp [boolN]; try omega, (ext_ex (by repeat (first | exact Below.refl _ _ | assumption | refine bExt ?_ _ | refine bAlloc ?_ _ | refine bDrewN ?_ _ | refine bDrew ?_ | refine bSet ?_ (by first | exact Nat.le_refl _ | omega | (simp; done) | (simp; omega)) _))).choose_spec⟩
              case measure => simp [intOf]; omega
          · have hjk := Lib.hid (show j = k by omega)
            go_wp2
            go_roundw
            case rel => exact ⟨k + 1, _, by omega, by go_num, by rw [HU1.out, hjk.out], by rw [HU2.out, hjk.out], (ext_ex (by repeat (first | exact Below.refl _ _ | assumption | refine bExt ?_ _ | refine bAlloc ?_ _ | refine bDrewN ?_ _ | refine bDrew ?_ | refine bSet ?_ (by first | exact Nat.le_refl _ | omega | (simp; done) | (simp; omega)) _))).choose_spec⟩
            case measure => simp [intOf]; omega
      · have hkn := Lib.hid (show k = n by omega)
        go_wp2
        go_ret3
        exact ⟨ret_int2B (by rw [hkn.out]) (by rw [hkn.out]), ext_ex (by repeat (first | exact Below.refl _ _ | assumption | refine bExt ?_ _ | refine bAlloc ?_ _ | refine bDrewN ?_ _ | refine bDrew ?_ | refine bSet ?_ (by first | exact Nat.le_refl _ | omega | (simp; done) | (simp; omega)) _))⟩
set_option maxHeartbeats 2000000 in
theorem implOrderAgreement_any (w : World) (A B : Option Addr) (n m c d : Nat) (gg kk : List (List Int)) (hm : RdMk w A n B m gg kk) (hnc : n ≤ c) (a b : Int) :
    Calls Try.prog 14 #[.agg #[.slice A n c, .slice B m d], .int .i64 a, .int .i64 b] w fun e w' => e = .returned (.tuple #[.int .i64 (oaV gg kk a b 1), .int .i64 (oaV gg kk a b (-1)), .bool (agOk gg kk a b)]) ∧ ∃ x, w' = ext w x := by
  have Hl := Lib.hid hm.1.len
  cases hk : agOk gg kk a b
  · rw [oa_no hk, oa_no hk]
    unfold agOk at hk
    go_enter Try.func14, Try.ntmps14
    go_wp2_with (first | (go_at_call 26; ((with_reducible refine (isJudge_any _ _ _ _ _ _ _ _ _ (hm.below (by repeat (first | exact Below.refl _ _ | assumption | refine bExt ?_ _ | refine bAlloc ?_ _ | refine bDrewN ?_ _ | refine bDrew ?_ | refine bSet ?_ (by first | exact Nat.le_refl _ | omega | (simp; done) | (simp; omega)) _))) _).mono ?_); rintro e w' ⟨rfl, x, rfl⟩)))
    all_goals first | (go_ret3; exact ⟨rfl, ext_ex (by repeat (first | exact Below.refl _ _ | assumption | refine bExt ?_ _ | refine bAlloc ?_ _ | refine bDrewN ?_ _ | refine bDrew ?_ | refine bSet ?_ (by first | exact Nat.le_refl _ | omega | (simp; done) | (simp; omega)) _))⟩) | (exfalso; simp_all)
  · rw [oa_yes hk, oa_yes hk, Hl.out]
    obtain ⟨ha, hb⟩ := agOk_of hk
    have h14 := judgeB_14 hm ha
    obtain ⟨a, rfl⟩ := judgeB_nn ha
    obtain ⟨b, rfl⟩ := judgeB_nn hb
    clear hk
    go_enter Try.func14, Try.ntmps14
    go_wp2_with (first | (go_at_call 26; ((with_reducible refine (isJudge_any _ _ _ _ _ _ _ _ _ (hm.below (by repeat (first | exact Below.refl _ _ | assumption | refine bExt ?_ _ | refine bAlloc ?_ _ | refine bDrewN ?_ _ | refine bDrew ?_ | refine bSet ?_ (by first | exact Nat.le_refl _ | omega | (simp; done) | (simp; omega)) _))) _).mono ?_); rintro e w' ⟨rfl, x, rfl⟩)))
    go_loopw [9, 10, 28] (fun t u i wr => ∃ (k : Nat) (x : World), k ≤ n ∧ i = .int .i64 k ∧ t = .int .i64 (ordU gg a b 1 k) ∧ u = .int .i64 (ordU gg a b (-1) k) ∧ wr = ext (w.alloc (.cells #[.slice A n c, .slice B m d] 25)) x) (fun _ _ i _ => n - (intOf i).toNat)
    case atStart => exact ⟨0, _, by omega, rfl, rfl, rfl, (ext_ex (by repeat (first | exact Below.refl _ _ | assumption | refine bExt ?_ _ | refine bAlloc ?_ _ | refine bDrewN ?_ _ | refine bDrew ?_ | refine bSet ?_ (by first | exact Nat.le_refl _ | omega | (simp; done) | (simp; omega)) _))).choose_spec⟩
    case round =>
      obtain ⟨k, x, hkn, rfl, rfl, rfl, rfl⟩ := hrel
      by_cases hlt : k < n
      · have hu1 := ordU_bd gg a b 1 k (by omega)
        have hu2 := ordU_bd gg a b (-1) k (by omega)
        obtain ⟨b0, off, B1, m1, d1, b1, o1, rfl, hb0, hc0, rfl, hb1, ham, hbm, hcs, hr, h9, hbd⟩ := row_facts hm ha hb k hlt
        have hbm' : (b : Int) < m1 := by omega
        have ham' : (a : Int) < m1 := by omega
        have hca := hcs a ham
        have hcb := hcs b (by omega)
        have ba := atI_bd (a := a) hbd (by omega) (by rw [hr.len]; omega)
        have bb := atI_bd (a := b) hbd (by omega) (by rw [hr.len]; omega)
        have HU1 := Lib.hid (show ordU gg a b 1 (k + 1) = ordU gg a b 1 k + ordT gg a b 1 k k from rfl)
        have HU2 := Lib.hid (show ordU gg a b (-1) (k + 1) = ordU gg a b (-1) k + ordT gg a b (-1) k k from rfl)
        generalize ordU gg a b 1 k = u1 at *
        generalize ordU gg a b (-1) k = u2 at *
        have HI : ∀ j, Hid (ordI gg a b k j = sgnI (atI (rowOf gg k) a - atI (rowOf gg j) a) * sgnI (atI (rowOf gg k) b - atI (rowOf gg j) b)) := fun j => rfl
        have HC := ordI_cases gg a b k
        clear hcs hr hbd
        generalize atI (rowOf gg k) a = xa at *
        generalize atI (rowOf gg k) b = xb at *
        have hkc : k ≤ c := by omega
        go_wp2
        go_loopw [9, 10, 38] (fun t u i wr => ∃ (j : Nat) (x : World), j ≤ k ∧ i = .int .i64 j ∧ t = .int .i64 (u1 + ordT gg a b 1 k j) ∧ u = .int .i64 (u2 + ordT gg a b (-1) k j) ∧ wr = ext (w.alloc (.cells #[.slice (some ⟨b0, off, none⟩) n c, .slice B m d] 25)) x) (fun _ _ i _ => k - (intOf i).toNat)
        case atStart => exact ⟨0, _, by omega, rfl, by simp [ordT, sumUp], by simp [ordT, sumUp], (ext_ex (by repeat (first | exact Below.refl _ _ | assumption | refine bExt ?_ _ | refine bAlloc ?_ _ | refine bDrewN ?_ _ | refine bDrew ?_ | refine bSet ?_ (by first | exact Nat.le_refl _ | omega | (simp; done) | (simp; omega)) _))).choose_spec⟩
        case round =>
          obtain ⟨j, y, hjk, rfl, rfl, rfl, rfl⟩ := hrel
          have ht1 := ordT_bd gg a b 1 k j (by omega)
          have ht2 := ordT_bd gg a b (-1) k j (by omega)
          by_cases hjl : j < k
          · obtain ⟨b0', off', B2, m2, d2, b2, o2, he, hb0', hd0, rfl, hb2, ham2, hbm2, hcs, hr, h92, hbd⟩ := row_facts hm ha hb j (by omega)
            injection he with he; injection he with he1 he2; subst he1 he2
            have hbm2' : (b : Int) < m2 := by omega
            have ham2' : (a : Int) < m2 := by omega
            have hda := hcs a ham2
            have hdb := hcs b (by omega)
            have bya := atI_bd (a := a) hbd (by omega) (by rw [hr.len]; omega)
            have byb := atI_bd (a := b) hbd (by omega) (by rw [hr.len]; omega)
            have hi := HI j
            have hcj := HC j
            have HT1 := Lib.hid (show ordT gg a b 1 k (j + 1) = ordT gg a b 1 k j + boolN (ordI gg a b k j == 1) from rfl)
            have HT2 := Lib.hid (show ordT gg a b (-1) k (j + 1) = ordT gg a b (-1) k j + boolN (ordI gg a b k j == -1) from rfl)
            clear hcs hr hbd HI HC
            generalize ordT gg a b 1 k j = t1 at *
            generalize ordT gg a b (-1) k j = t2 at *
            generalize atI (rowOf gg j) a = ya at *
            generalize atI (rowOf gg j) b = yb at *
            generalize ordI gg a b k j = r at *
            have hi1 := hi.out
            have hi2 : sgnI (xa - ya) * sgnI (xb - yb) = r := hi1.symm
            clear hi hi1
            rcases hcj with rfl | rfl | rfl
            all_goals
              go_wp2
              go_quiet ((go_at_call 39; exact quietL (signOf_any _ _)))
              go_wp2
              go_roundw
              case rel => exact ⟨j + 1, _, by omega, by go_num, by rw [HT1.out]; simp [boolN]; try omega, by rw [HT2.out]; simp [boolN]; try omega, (ext_ex (by repeat (first | exact Below.refl _ _ | assumption | refine bExt ?_ _ | refine bAlloc ?_ _ | refine bDrewN ?_ _ | refine bDrew ?_ | refine bSet ?_ (by first | exact Nat.le_refl _ | omega | (simp; done) | (simp; omega)) _))).choose_spec⟩
              case measure => simp [intOf]; omega
          · have hjk := Lib.hid (show j = k by omega)
            go_wp2
            go_roundw
            case rel => exact ⟨k + 1, _, by omega, by go_num, by rw [HU1.out, hjk.out], by rw [HU2.out, hjk.out], (ext_ex (by repeat (first | exact Below.refl _ _ | assumption | refine bExt ?_ _ | refine bAlloc ?_ _ | refine bDrewN ?_ _ | refine bDrew ?_ | refine bSet ?_ (by first | exact Nat.le_refl _ | omega | (simp; done) | (simp; omega)) _))).choose_spec⟩
            case measure => simp [intOf]; omega
      · have hkn := Lib.hid (show k = n by omega)
        go_wp2
        go_ret3
        exact ⟨ret_int2B (by rw [hkn.out]) (by rw [hkn.out]), ext_ex (by repeat (first | exact Below.refl _ _ | assumption | refine bExt ?_ _ | refine bAlloc ?_ _ | refine bDrewN ?_ _ | refine bDrew ?_ | refine bSet ?_ (by first | exact Nat.le_refl _ | omega | (simp; done) | (simp; omega)) _))⟩
end Go.Proofs.Ytpjaiihkgeabiaa
