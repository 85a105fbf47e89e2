/- Decimal numbers as text: the reference's l1Num. Conditions: none. -/
import Derived.Test.YtpjaiihkgeabiaaDoorZMisc
import Derived.Lib.ItoaNum
import Derived.Lib.ItoaLen
import Derived.Deep.RegionHeld3
import Derived.Test.YtpjaiihkgeabiaaDoorLib
import Derived.Test.YtpjaiihkgeabiaaDoorShelf
import Derived.Lib.LaidTab
import Derived.Deep.DeepHandedRow
import Derived.Lib.AppendIntMem
import Derived.Test.YtpjaiihkgeabiaaDoorL1
import Derived.Laws.Concat
import Derived.Deep.RegionHeldLaw
import Derived.Deep.DeepCutAuto
import Derived.Deep.RegionHeld
set_option linter.unusedVariables false
set_option linter.unusedSimpArgs false
set_option maxRecDepth 100000
namespace Go.Proofs.YtpjaiihkgeabiaaDoor
open Go.RowKit
/-- A number in decimal. -/
def numS (n : Int) : ByteArray := ⟨(Lib.decDigits n.toNat).toArray⟩
theorem oneB_data (n : Int) : oneB n = ⟨#[UInt8.ofNat n.toNat]⟩ := rfl
theorem numS_small {n : Int} (h0 : 0 ≤ n) (h : n < 10) : numS n = oneB (48 + n) := by
  unfold numS
  rw [Lib.decDigits_one (by omega), oneB_data, show (48 + n).toNat = 48 + n.toNat by omega]
theorem numS_step {n : Int} (h : 10 ≤ n) : numS n = numS (n / 10) ++ oneB (48 + n % 10) := by
  unfold numS
  rw [Lib.decDigits, dif_neg (by omega), oneB_data, show (48 + n % 10).toNat = 48 + n.toNat % 10 by omega, show (n / 10).toNat = n.toNat / 10 by omega]
  apply ByteArray.ext
  simp
theorem numS_size : ∀ (k : Nat) (n : Int), 0 ≤ n → n.toNat < 10 ^ (k + 1) → (numS n).size ≤ k + 1 := by
  intro k
  induction k with
  | zero => intro n h0 h1; rw [numS_small h0 (by omega)]; exact Nat.le_trans (by simp [oneB, ByteArray.size_push]) (Nat.le_refl 1)
  | succ k ih =>
    intro n h0 h1
    by_cases h : n < 10
    · rw [numS_small h0 h]; exact Nat.le_trans (show (oneB (48 + n)).size ≤ 1 by simp [oneB, ByteArray.size_push]) (by omega)
    · rw [numS_step (by omega), ByteArray.size_append]
      have h2 := ih (n / 10) (by omega) (by rw [Nat.pow_succ] at h1; omega)
      have h3 : (oneB (48 + n % 10)).size ≤ 1 := by simp [oneB, ByteArray.size_push]
      omega
theorem run_conv_u8 (W : World) (n : Int) (g : Nat) (h : g = W.heap.size) : (convert 22 9 (.slice (some ⟨g, 0, none⟩) 1 1)).run Tryd.prog (W.alloc (.cells #[.int .u8 n] 5)) = .ok (.string (oneB n)) (W.alloc (.cells #[.int .u8 n] 5)) := by
  subst h
  have hl := run_loadCells_list (P := Tryd.prog) (W.alloc (.cells #[.int .u8 n] 5)) ⟨W.heap.size, 0, none⟩ [Value.int .u8 n] (fun j v hj => by
    match j with
    | 0 => simp at hj; subst hj; simp [Addr.add, go_sem]
    | j + 1 => simp at hj)
  rw [run_convert_bytes_string _ _ _ _ _ _ _ Tryd.underlying22 Tryd.underlying5 Tryd.underlying9, run_bytesToString _ _ 1 1 [n] hl]
  rfl
attribute [go_sem] run_conv_u8
/-- The same where the byte's block is an older one. -/
theorem run_conv_old (W : World) (n : Int) (g : Nat) (h : W.cell? ⟨g, 0, none⟩ = some (.int .u8 n)) : (convert 22 9 (.slice (some ⟨g, 0, none⟩) 1 1)).run Tryd.prog W = .ok (.string (oneB n)) W := by
  have hl := run_loadCells_list (P := Tryd.prog) W ⟨g, 0, none⟩ [Value.int .u8 n] (fun j v hj => by
    match j with
    | 0 => simp at hj; subst hj; simpa [Addr.add] using h
    | j + 1 => simp at hj)
  rw [run_convert_bytes_string _ _ _ _ _ _ _ Tryd.underlying22 Tryd.underlying5 Tryd.underlying9, run_bytesToString _ _ 1 1 [n] hl]
  rfl
theorem run_conv_d (W : World) (n : Int) (g : Nat) (h : g = W.heap.size) : (convert 22 9 (.slice (some ⟨g, 0, none⟩) 1 1)).run Tryd.prog (W.alloc (.cells #[.int .u8 n] 5)).drew = .ok (.string (oneB n)) (W.alloc (.cells #[.int .u8 n] 5)).drew := run_conv_old _ n g (by subst h; simp [go_sem])
theorem run_conv_dx (W x : World) (n : Int) (g : Nat) (h : g = W.heap.size) : (convert 22 9 (.slice (some ⟨g, 0, none⟩) 1 1)).run Tryd.prog (ext (W.alloc (.cells #[.int .u8 n] 5)).drew x) = .ok (.string (oneB n)) (ext (W.alloc (.cells #[.int .u8 n] 5)).drew x) := run_conv_old _ n g (by subst h; simp [go_sem])
theorem run_conv_x (W x : World) (n : Int) (g : Nat) (h : g = W.heap.size) : (convert 22 9 (.slice (some ⟨g, 0, none⟩) 1 1)).run Tryd.prog (ext (W.alloc (.cells #[.int .u8 n] 5)) x) = .ok (.string (oneB n)) (ext (W.alloc (.cells #[.int .u8 n] 5)) x) := run_conv_old _ n g (by subst h; simp [go_sem])
attribute [go_sem] run_conv_d run_conv_dx run_conv_x
set_option maxHeartbeats 1000000 in
theorem l1Num_fuel (k : Nat) : ∀ (n : Int) (w : World), 0 ≤ n → n.toNat < 10 ^ (k + 1) → n ≤ 9223372036854775807 → k ≤ 30 →
    Calls Tryd.prog 87 #[.int .i64 n] w fun e w' => e = .returned (.string (numS n)) ∧ ∃ x, w' = ext w x := by
  induction k with
  | zero =>
    intro n w h0 h1 h2 h3
    have h9 : n < 10 := by omega
    have HN := Lib.hid (numS_small h0 h9)
    go_enter Tryd.func87, Tryd.ntmps87
    go_wp2
    go_ret
    exact ⟨ret_str (by rw [HN.out]), ext_ex (by repeat (first | exact Below.refl _ _ | assumption | refine bExt ?_ _ | refine bAlloc ?_ _ | refine bDrewN ?_ _ | refine bDrew ?_ | refine bSet ?_ (by first | exact Nat.le_refl _ | omega | (simp; done) | (simp; omega)) _))⟩
  | succ k ih =>
    intro n w h0 h1 h2 h3
    by_cases h9 : n < 10
    · have HN := Lib.hid (numS_small h0 h9)
      clear ih h1
      go_enter Tryd.func87, Tryd.ntmps87
      go_wp2
      go_ret
      exact ⟨ret_str (by rw [HN.out]), ext_ex (by repeat (first | exact Below.refl _ _ | assumption | refine bExt ?_ _ | refine bAlloc ?_ _ | refine bDrewN ?_ _ | refine bDrew ?_ | refine bSet ?_ (by first | exact Nat.le_refl _ | omega | (simp; done) | (simp; omega)) _))⟩
    · have HN := Lib.hid (numS_step (n := n) (by omega))
      have hk : (n / 10).toNat < 10 ^ (k + 1) := by rw [Nat.pow_succ] at h1; omega
      have hs := numS_size k (n / 10) (by omega) hk
      have ho : (oneB (48 + n % 10)).size ≤ 1 := by simp [oneB, ByteArray.size_push]
      have ih' := fun w => ih (n / 10) w (by omega) hk (by omega) (by omega)
      have e1 : n.tdiv 10 = n / 10 := Int.tdiv_eq_ediv_of_nonneg h0
      have e2 : n.tmod 10 = n % 10 := Int.tmod_eq_emod_of_nonneg h0
      have e3 : IntKind.i64.wrap (n / 10) = n / 10 := IntWalk.i64_in _ (by omega)
      have e4 : IntKind.i64.wrap (48 + n % 10) = 48 + n % 10 := IntWalk.i64_in _ (by omega)
      have e5 : IntKind.u8.wrap (48 + n % 10) = 48 + n % 10 := IntWalk.u8_in _ (by omega)
      clear ih h1 hk
      go_enter Tryd.func87, Tryd.ntmps87
      go_wp2
      go_region_with (first | (go_at_call 87; ((with_reducible refine (ih' _).mono ?_); rintro e w' ⟨rfl, x, rfl⟩)))
      all_goals
        go_wp2
        go_ret
        exact ⟨ret_str (by rw [HN.out]), ext_ex (by repeat (first | exact Below.refl _ _ | assumption | refine bExt ?_ _ | refine bAlloc ?_ _ | refine bDrewN ?_ _ | refine bDrew ?_ | refine bSet ?_ (by first | exact Nat.le_refl _ | omega | (simp; done) | (simp; omega)) _))⟩
end Go.Proofs.YtpjaiihkgeabiaaDoor
namespace Go.Proofs.YtpjaiihkgeabiaaDoor
open Go.RowKit
/-- The table that strconv.Itoa reads lies as its initialiser lays it. -/
def Tab (w : World) : Prop := Lib.TabIs Tryd.prog w "internal/strconv.uint64pow10" .u64 Lib.pow10Tab
def laid3 : List (String × DataW Unit) := [("math/bits.deBruijn32tab", Rows.laid_math_bits_deBruijn32tab), ("math/bits.deBruijn64tab", Rows.laid_math_bits_deBruijn64tab), ("internal/strconv.uint64pow10", Rows.laid_internal_strconv_uint64pow10)]
theorem gPow : Tryd.prog.globalNamed "internal/strconv.uint64pow10" = some 0 := by kernel_rfl
theorem gPowType : (Tryd.prog.globals[0]?).map (·.type) = some 144 := by kernel_rfl
theorem cellsPow : Tryd.prog.cellsOf 144 = 20 := by kernel_rfl
theorem cellsU64 : Tryd.prog.cellsOf 74 = 1 := by kernel_rfl
theorem laidVars_tail {P : Program} {W : World} {x : String × DataW Unit} {r : List (String × DataW Unit)} (h : laidMet P (x :: r) W) : laidMet P r W := by
  obtain ⟨ps, hv, hn, hc⟩ := h
  obtain ⟨g, t, cs, fuel, p, q, h1, h2, h3, h4, h5, rfl⟩ := hv
  exact ⟨q, h5, (List.nodup_append.1 hn).2.1, fun b off hb => hc b off (List.mem_append_right _ hb)⟩
theorem tab_of_laid {W : World} (h : laidMetH Tryd.prog laid3 W) : Tab W :=
  Lib.tabIs_of_head (rest := []) gPow gPowType Tryd.underlying144 Tryd.underlying74 cellsU64 cellsPow (laidVars_tail (laidVars_tail (show laidMet Tryd.prog laid3 W from h)))
theorem Tab.below {w w' : World} (h : Tab w) (hb : Below w.heap.size w w') : Tab w' := by
  have hlt : 0 < w.heap.size := by
    have h1 := h.cell gPow 0 (by decide)
    exact World.block_lt_of_cell? w _ h1
  unfold Tab Lib.TabIs at *
  rw [← h]
  simp only [World.var?, gPow, Option.bind_some, Option.bind_eq_bind, hb.block 0 hlt]
def cells32 : Array Value := #[0, 1, 28, 2, 29, 14, 24, 3, 30, 22, 20, 15, 25, 17, 4, 8, 31, 27, 13, 23, 21, 19, 16, 7, 26, 12, 18, 6, 11, 5, 10, 9].map (Value.int .u8)
def cells64 : Array Value := #[0, 1, 56, 2, 57, 49, 28, 3, 61, 58, 42, 50, 38, 29, 17, 4, 62, 47, 59, 36, 45, 43, 51, 22, 53, 39, 33, 30, 24, 18, 12, 5, 63, 55, 48, 27, 60, 41, 37, 16, 46, 35, 44, 21, 52, 32, 23, 11, 54, 26, 40, 15, 34, 20, 31, 10, 25, 14, 19, 9, 13, 8, 7, 6].map (Value.int .u8)
def cells20 : Array Value := (Lib.pow10Tab.map (Value.int .u64)).toArray
/-- A start for the witness: the settled world, the three tables laid. -/
noncomputable def laidWorld (os : Os) : World :=
  { World.holding Tryd.prog os ⟨#[], #[], []⟩ with heap := (((World.holding Tryd.prog os ⟨#[], #[], []⟩).heap.modify 0 (fun | .cells _ t frozen => .cells cells20 t frozen | o => o)).modify 2 (fun | .cells _ t frozen => .cells cells32 t frozen | o => o)).modify 3 (fun | .cells _ t frozen => .cells cells64 t frozen | o => o) }
theorem own : ownKnob Tryd.prog.godebug = none := by kernel_rfl
end Go.Proofs.YtpjaiihkgeabiaaDoor
namespace Go.Proofs.YtpjaiihkgeabiaaDoor
open Go.RowKit
theorem itoa_any (n : Int) (w : World) (h0 : 0 ≤ n) (h1 : n ≤ 9223372036854775807) (hT : Tab w) :
    Calls Tryd.prog 82 #[.int .i64 n] w fun e w' => e = .returned (.string (numS n)) ∧ ∃ x, w' = ext w x := by
  refine (Tryd.strconv_Itoa n (by omega) h1 w hT).mono ?_
  rintro e w' ⟨rfl, k, os, rfl⟩
  refine ⟨?_, ext_ex (Lib.below_grow w.heap.size w (Nat.le_refl _) k os)⟩
  unfold numS Lib.itoa
  rw [if_neg (by omega)]
theorem itoa_small (n : Int) (w : World) (h0 : 0 ≤ n) (h1 : n < 100) :
    Calls Tryd.prog 82 #[.int .i64 n] w fun e w' => e = .returned (.string (numS n)) ∧ w = w' := by
  obtain ⟨i, rfl⟩ : ∃ i : Nat, n = i := ⟨n.toNat, by omega⟩
  refine (Tryd.strconv_Itoa_small i (by omega) w).mono ?_
  rintro e w' ⟨rfl, rfl⟩
  exact ⟨by unfold numS; rw [Int.toNat_natCast], rfl⟩
/-- A number with two digits or more. -/
def twoD (n : Int) : ByteArray := if n < 10 then ⟨#[48]⟩ ++ numS n else numS n
theorem twoD_size {n : Int} (h0 : 0 ≤ n) (h1 : n < 100) : (twoD n).size ≤ 3 := by
  have h2 := numS_size 1 n h0 (by omega)
  unfold twoD
  split
  · rw [ByteArray.size_append]; exact (by show 1 + _ ≤ 3; omega)
  · omega
set_option maxHeartbeats 400000 in
theorem twoDigits_any (n : Int) (w : World) (h0 : 0 ≤ n) (h1 : n < 100) :
    Calls Tryd.prog 81 #[.int .i64 n] w fun e w' => e = .returned (.string (twoD n)) ∧ w = w' := by
  have h2 := numS_size 1 n h0 (by omega)
  by_cases h : n < 10
  · have HN : Hid (twoD n = ⟨#[48]⟩ ++ numS n) := Lib.hid (if_pos h)
    go_enter Tryd.func81, Tryd.ntmps81
    go_wp2_with ((go_at_call 82; ((with_reducible refine (itoa_small _ _ h0 h1).mono ?_); rintro e w' ⟨rfl, rfl⟩)))
    go_ret
    exact ⟨ret_str (by rw [HN.out]), rfl⟩
  · have HN : Hid (twoD n = numS n) := Lib.hid (if_neg h)
    go_enter Tryd.func81, Tryd.ntmps81
    go_wp2_with ((go_at_call 82; ((with_reducible refine (itoa_small _ _ h0 h1).mono ?_); rintro e w' ⟨rfl, rfl⟩)))
    go_ret
    exact ⟨ret_str (by rw [HN.out]), rfl⟩
set_option maxHeartbeats 400000 in
theorem srTwo_any (n : Int) (w : World) (h0 : 0 ≤ n) (h1 : n < 100) :
    Calls Tryd.prog 85 #[.int .i64 n] w fun e w' => e = .returned (.string (twoD n)) ∧ ∃ x, w' = ext w x := by
  have h2 := numS_size 1 n h0 (by omega)
  by_cases h : n < 10
  · have HN : Hid (twoD n = ⟨#[48]⟩ ++ numS n) := Lib.hid (if_pos h)
    go_enter Tryd.func85, Tryd.ntmps85
    go_wp2_with ((go_at_call 87; ((with_reducible refine (l1Num_fuel 1 _ _ h0 (by omega) (by omega) (by omega)).mono ?_); rintro e w' ⟨rfl, x, rfl⟩)))
    go_ret
    exact ⟨ret_str (by rw [HN.out]), x, rfl⟩
  · have HN : Hid (twoD n = numS n) := Lib.hid (if_neg h)
    go_enter Tryd.func85, Tryd.ntmps85
    go_wp2_with ((go_at_call 87; ((with_reducible refine (l1Num_fuel 1 _ _ h0 (by omega) (by omega) (by omega)).mono ?_); rintro e w' ⟨rfl, x, rfl⟩)))
    go_ret
    exact ⟨ret_str (by rw [HN.out]), x, rfl⟩
end Go.Proofs.YtpjaiihkgeabiaaDoor
namespace Go.Proofs.YtpjaiihkgeabiaaDoor
open Go.RowKit
def cueB (t k s : Int) : Bool := inB t 0 200000 && (inB k 1 4 && (inB s 0 999 && (decide (s = 0) == decide (k = 1))))
/-- The word of a kind. -/
def wordC (k : Int) : ByteArray := if k = 1 then ⟨#[119, 97, 114, 109, 45, 117, 112]⟩ else if k = 2 then ⟨#[115, 116, 97, 114, 116]⟩ else if k = 3 then ⟨#[101, 110, 100]⟩ else ⟨#[115, 99, 111, 114, 101]⟩
def cueH (t k : Int) : ByteArray := twoD (t / 3600) ++ ⟨#[58]⟩ ++ twoD (t / 60 % 60) ++ ⟨#[58]⟩ ++ twoD (t % 60) ++ ⟨#[32]⟩ ++ wordC k
def cueT (t k s : Int) : ByteArray := if cueB t k s then (if 0 < s then cueH t k ++ (⟨#[32]⟩ ++ numS s) else cueH t k) else ByteArray.empty
theorem cueB_of {t k s : Int} (h : cueB t k s = true) : (0 ≤ t ∧ t ≤ 200000) ∧ (1 ≤ k ∧ k ≤ 4) ∧ (0 ≤ s ∧ s ≤ 999) ∧ (s = 0 ↔ k = 1) := by
  simp only [cueB, Bool.and_eq_true, beq_iff_eq, decide_eq_decide] at h
  exact ⟨inB_iff.1 h.1, inB_iff.1 h.2.1, inB_iff.1 h.2.2.1, h.2.2.2⟩
theorem beq_both {s k : Int} (h : (s == 0) = (k == 1)) : s = 0 ↔ k = 1 := by
  rw [Bool.eq_iff_iff, beq_iff_eq, beq_iff_eq] at h
  exact h
/-- A short string. -/
def Sml (a : ByteArray) : Prop := a.size ≤ 1000
theorem run_add_sml {P : Program} (w : World) (a b : ByteArray) (ha : Sml a) (hb : Sml b) : (Op.stringOp .add a b).run P w = .ok (.string (a ++ b)) w := run_string_add_sum w a b (by unfold Sml at ha hb; omega)
attribute [go_sem high] run_add_sml
def RetSB (w : World) (s : ByteArray) (ok : Bool) (e : Ending) (w' : World) : Prop := ∃ x, e = .returned (.tuple #[.string s, .bool ok]) ∧ w' = ext w x
theorem RetSB.mk_ {w W : World} {s s' : ByteArray} {ok ok' : Bool} (hs : s' = s) (hk : ok' = ok) (hb : Below w.heap.size w W) : RetSB w s ok (.returned (.tuple #[.string s', .bool ok'])) W := by
  subst hs hk
  obtain ⟨x, rfl⟩ := ext_ex hb
  exact ⟨x, rfl, rfl⟩
theorem tiClockT_any (a : Int) (w : World) :
    Calls Tryd.prog 83 #[.int .i64 a] w fun e w' => e = .returned (.bool (inB a 0 200000)) ∧ w = w' := by
  go_enter Tryd.func83, Tryd.ntmps83
  go_wp2_with ((go_at_call 84; ((with_reducible refine (l1In_any _ _ _ _).mono ?_); rintro e w' ⟨rfl, rfl⟩)))
  go_ret
  exact ⟨rfl, rfl⟩
theorem isDayTimeT_any (a : Int) (w : World) :
    Calls Tryd.prog 79 #[.int .i64 a] w fun e w' => e = .returned (.bool (inB a 0 200000)) ∧ w = w' := by
  go_enter Tryd.func79, Tryd.ntmps79
  go_wp2_with ((go_at_call 80; ((with_reducible refine (within_any _ _ _ _).mono ?_); rintro e w' ⟨rfl, rfl⟩)))
  go_ret
  exact ⟨rfl, rfl⟩
set_option maxHeartbeats 4000000 in
theorem implCueText_any (t k s : Int) (w : World) (hT : Tab w) :
    Calls Tryd.prog 33 #[.agg #[.int .i64 t, .int .i64 k, .int .i64 s]] w (RetSB w (cueT t k s) (cueB t k s)) := by
  cases hc : cueB t k s
  · have HV : Hid (cueT t k s = ByteArray.empty) := Lib.hid (by simp [cueT, hc])
    unfold cueB at hc
    go_enter Tryd.func33, Tryd.ntmps33
    go_wp2_with (first | (go_at_call 79; ((with_reducible refine (isDayTimeT_any _ _).mono ?_); rintro e w' ⟨rfl, rfl⟩)) | (go_at_call 80; ((with_reducible refine (within_any _ _ _ _).mono ?_); rintro e w' ⟨rfl, rfl⟩)))
    all_goals first | (go_ret2; exact RetSB.mk_ (by rw [HV.out]; rfl) rfl (by repeat (first | exact Below.refl _ _ | assumption | refine bExt ?_ _ | refine bAlloc ?_ _ | refine bDrewN ?_ _ | refine bDrew ?_ | refine bSet ?_ (by first | exact Nat.le_refl _ | omega | (simp; done) | (simp; omega)) _))) | (exfalso; simp_all; done) | (exfalso; simp_all; exact hc (beq_both (by assumption)))
  · obtain ⟨⟨ht0, ht1⟩, ⟨hk0, hk1⟩, ⟨hs0, hs1⟩, hsk⟩ := cueB_of hc
    have i1 : inB t 0 200000 = true := inB_iff.2 ⟨ht0, ht1⟩
    have i3 : inB s 0 999 = true := inB_iff.2 ⟨hs0, hs1⟩
    have z1 := twoD_size (n := t / 3600) (by omega) (by omega)
    have z2 := twoD_size (n := t / 60 % 60) (by omega) (by omega)
    have z3 := twoD_size (n := t % 60) (by omega) (by omega)
    have z4 := numS_size 2 s hs0 (by omega)
    have e1 : t.tdiv 3600 = t / 3600 := Int.tdiv_eq_ediv_of_nonneg ht0
    have e2 : IntKind.i64.wrap (t / 3600) = t / 3600 := IntWalk.i64_in _ (by omega)
    have e3 : t.tdiv 60 = t / 60 := Int.tdiv_eq_ediv_of_nonneg ht0
    have e4 : IntKind.i64.wrap (t / 60) = t / 60 := IntWalk.i64_in _ (by omega)
    have e5 : (t / 60).tmod 60 = t / 60 % 60 := Int.tmod_eq_emod_of_nonneg (by omega)
    have e6 : t.tmod 60 = t % 60 := Int.tmod_eq_emod_of_nonneg ht0
    rcases (by omega : k = 1 ∨ k = 2 ∨ k = 3 ∨ k = 4) with rfl | rfl | rfl | rfl
    · obtain rfl : s = 0 := hsk.2 rfl
      have HV : Hid (cueT t 1 0 = twoD (t / 3600) ++ ⟨#[58]⟩ ++ twoD (t / 60 % 60) ++ ⟨#[58]⟩ ++ twoD (t % 60) ++ ⟨#[32]⟩ ++ ⟨#[119, 97, 114, 109, 45, 117, 112]⟩) := Lib.hid (by rw [cueT, if_pos hc, if_neg (by omega)]; rfl)
      have i2 : inB 1 1 4 = true := rfl
      have m0 : Sml (twoD (t / 3600)) := by unfold Sml; (try simp only [ByteArray.size_append]); have h58 : ByteArray.size ⟨#[58]⟩ = 1 := rfl; have h32 : ByteArray.size ⟨#[32]⟩ = 1 := rfl; have hw : ByteArray.size ⟨#[119, 97, 114, 109, 45, 117, 112]⟩ = 7 := rfl; omega
      have m1 : Sml (twoD (t / 3600) ++ ⟨#[58]⟩) := by unfold Sml; (try simp only [ByteArray.size_append]); have h58 : ByteArray.size ⟨#[58]⟩ = 1 := rfl; have h32 : ByteArray.size ⟨#[32]⟩ = 1 := rfl; have hw : ByteArray.size ⟨#[119, 97, 114, 109, 45, 117, 112]⟩ = 7 := rfl; omega
      have m2 : Sml (twoD (t / 3600) ++ ⟨#[58]⟩ ++ twoD (t / 60 % 60)) := by unfold Sml; (try simp only [ByteArray.size_append]); have h58 : ByteArray.size ⟨#[58]⟩ = 1 := rfl; have h32 : ByteArray.size ⟨#[32]⟩ = 1 := rfl; have hw : ByteArray.size ⟨#[119, 97, 114, 109, 45, 117, 112]⟩ = 7 := rfl; omega
      have m3 : Sml (twoD (t / 3600) ++ ⟨#[58]⟩ ++ twoD (t / 60 % 60) ++ ⟨#[58]⟩) := by unfold Sml; (try simp only [ByteArray.size_append]); have h58 : ByteArray.size ⟨#[58]⟩ = 1 := rfl; have h32 : ByteArray.size ⟨#[32]⟩ = 1 := rfl; have hw : ByteArray.size ⟨#[119, 97, 114, 109, 45, 117, 112]⟩ = 7 := rfl; omega
      have m4 : Sml (twoD (t / 3600) ++ ⟨#[58]⟩ ++ twoD (t / 60 % 60) ++ ⟨#[58]⟩ ++ twoD (t % 60)) := by unfold Sml; (try simp only [ByteArray.size_append]); have h58 : ByteArray.size ⟨#[58]⟩ = 1 := rfl; have h32 : ByteArray.size ⟨#[32]⟩ = 1 := rfl; have hw : ByteArray.size ⟨#[119, 97, 114, 109, 45, 117, 112]⟩ = 7 := rfl; omega
      have m5 : Sml (twoD (t / 3600) ++ ⟨#[58]⟩ ++ twoD (t / 60 % 60) ++ ⟨#[58]⟩ ++ twoD (t % 60) ++ ⟨#[32]⟩) := by unfold Sml; (try simp only [ByteArray.size_append]); have h58 : ByteArray.size ⟨#[58]⟩ = 1 := rfl; have h32 : ByteArray.size ⟨#[32]⟩ = 1 := rfl; have hw : ByteArray.size ⟨#[119, 97, 114, 109, 45, 117, 112]⟩ = 7 := rfl; omega
      have m6 : Sml (twoD (t / 3600) ++ ⟨#[58]⟩ ++ twoD (t / 60 % 60) ++ ⟨#[58]⟩ ++ twoD (t % 60) ++ ⟨#[32]⟩ ++ ⟨#[119, 97, 114, 109, 45, 117, 112]⟩) := by unfold Sml; (try simp only [ByteArray.size_append]); have h58 : ByteArray.size ⟨#[58]⟩ = 1 := rfl; have h32 : ByteArray.size ⟨#[32]⟩ = 1 := rfl; have hw : ByteArray.size ⟨#[119, 97, 114, 109, 45, 117, 112]⟩ = 7 := rfl; omega
      have m7 : Sml (twoD (t / 60 % 60)) := by unfold Sml; (try simp only [ByteArray.size_append]); have h58 : ByteArray.size ⟨#[58]⟩ = 1 := rfl; have h32 : ByteArray.size ⟨#[32]⟩ = 1 := rfl; have hw : ByteArray.size ⟨#[119, 97, 114, 109, 45, 117, 112]⟩ = 7 := rfl; omega
      have m8 : Sml (twoD (t % 60)) := by unfold Sml; (try simp only [ByteArray.size_append]); have h58 : ByteArray.size ⟨#[58]⟩ = 1 := rfl; have h32 : ByteArray.size ⟨#[32]⟩ = 1 := rfl; have hw : ByteArray.size ⟨#[119, 97, 114, 109, 45, 117, 112]⟩ = 7 := rfl; omega
      have m9 : Sml ((⟨#[58]⟩ : ByteArray)) := by unfold Sml; (try simp only [ByteArray.size_append]); have h58 : ByteArray.size ⟨#[58]⟩ = 1 := rfl; have h32 : ByteArray.size ⟨#[32]⟩ = 1 := rfl; have hw : ByteArray.size ⟨#[119, 97, 114, 109, 45, 117, 112]⟩ = 7 := rfl; omega
      have m10 : Sml ((⟨#[32]⟩ : ByteArray)) := by unfold Sml; (try simp only [ByteArray.size_append]); have h58 : ByteArray.size ⟨#[58]⟩ = 1 := rfl; have h32 : ByteArray.size ⟨#[32]⟩ = 1 := rfl; have hw : ByteArray.size ⟨#[119, 97, 114, 109, 45, 117, 112]⟩ = 7 := rfl; omega
      have m11 : Sml ((⟨#[119, 97, 114, 109, 45, 117, 112]⟩ : ByteArray)) := by unfold Sml; (try simp only [ByteArray.size_append]); have h58 : ByteArray.size ⟨#[58]⟩ = 1 := rfl; have h32 : ByteArray.size ⟨#[32]⟩ = 1 := rfl; have hw : ByteArray.size ⟨#[119, 97, 114, 109, 45, 117, 112]⟩ = 7 := rfl; omega
      have x0 : ∀ w : World, (Instr.index 101 (.agg #[.string ⟨#[]⟩, .string ⟨#[119, 97, 114, 109, 45, 117, 112]⟩, .string ⟨#[115, 116, 97, 114, 116]⟩, .string ⟨#[101, 110, 100]⟩, .string ⟨#[115, 99, 111, 114, 101]⟩]) (.int .i64 1)).run Tryd.prog w = .ok (.string ⟨#[119, 97, 114, 109, 45, 117, 112]⟩) w := fun _ => by kernel_rfl
      clear hc hsk z1 z2 z3 z4
      go_enter Tryd.func33, Tryd.ntmps33
      go_wp2_with (first | (go_at_call 79; ((with_reducible refine (isDayTimeT_any _ _).mono ?_); rintro e w' ⟨rfl, rfl⟩)) | (go_at_call 80; ((with_reducible refine (within_any _ _ _ _).mono ?_); rintro e w' ⟨rfl, rfl⟩)))
      go_region_held3 (fun w' => w'.cell? ⟨w.heap.size, 0, none⟩ = some (.int .i64 t)) (first | assumption | simp [*, go_sem]) (first | (go_at_call 81; ((with_reducible refine (twoDigits_any _ _ (by omega) (by omega)).mono ?_); rintro e w' ⟨rfl, rfl⟩)))
      go_wp2
      go_ret2
      exact RetSB.mk_ (by rw [HV.out]) rfl (by repeat (first | exact Below.refl _ _ | assumption | refine bExt ?_ _ | refine bAlloc ?_ _ | refine bDrewN ?_ _ | refine bDrew ?_ | refine bSet ?_ (by first | exact Nat.le_refl _ | omega | (simp; done) | (simp; omega)) _))
    · have hs : 0 < s := by omega
      have hsn : ¬ s = 0 := by omega
      have HV : Hid (cueT t 2 s = twoD (t / 3600) ++ ⟨#[58]⟩ ++ twoD (t / 60 % 60) ++ ⟨#[58]⟩ ++ twoD (t % 60) ++ ⟨#[32]⟩ ++ ⟨#[115, 116, 97, 114, 116]⟩ ++ (⟨#[32]⟩ ++ numS s)) := Lib.hid (by rw [cueT, if_pos hc, if_pos hs]; rfl)
      have i2 : inB 2 1 4 = true := rfl
      have m0 : Sml (twoD (t / 3600)) := by unfold Sml; (try simp only [ByteArray.size_append]); have h58 : ByteArray.size ⟨#[58]⟩ = 1 := rfl; have h32 : ByteArray.size ⟨#[32]⟩ = 1 := rfl; have hw : ByteArray.size ⟨#[115, 116, 97, 114, 116]⟩ = 5 := rfl; omega
      have m1 : Sml (twoD (t / 3600) ++ ⟨#[58]⟩) := by unfold Sml; (try simp only [ByteArray.size_append]); have h58 : ByteArray.size ⟨#[58]⟩ = 1 := rfl; have h32 : ByteArray.size ⟨#[32]⟩ = 1 := rfl; have hw : ByteArray.size ⟨#[115, 116, 97, 114, 116]⟩ = 5 := rfl; omega
      have m2 : Sml (twoD (t / 3600) ++ ⟨#[58]⟩ ++ twoD (t / 60 % 60)) := by unfold Sml; (try simp only [ByteArray.size_append]); have h58 : ByteArray.size ⟨#[58]⟩ = 1 := rfl; have h32 : ByteArray.size ⟨#[32]⟩ = 1 := rfl; have hw : ByteArray.size ⟨#[115, 116, 97, 114, 116]⟩ = 5 := rfl; omega
      have m3 : Sml (twoD (t / 3600) ++ ⟨#[58]⟩ ++ twoD (t / 60 % 60) ++ ⟨#[58]⟩) := by unfold Sml; (try simp only [ByteArray.size_append]); have h58 : ByteArray.size ⟨#[58]⟩ = 1 := rfl; have h32 : ByteArray.size ⟨#[32]⟩ = 1 := rfl; have hw : ByteArray.size ⟨#[115, 116, 97, 114, 116]⟩ = 5 := rfl; omega
      have m4 : Sml (twoD (t / 3600) ++ ⟨#[58]⟩ ++ twoD (t / 60 % 60) ++ ⟨#[58]⟩ ++ twoD (t % 60)) := by unfold Sml; (try simp only [ByteArray.size_append]); have h58 : ByteArray.size ⟨#[58]⟩ = 1 := rfl; have h32 : ByteArray.size ⟨#[32]⟩ = 1 := rfl; have hw : ByteArray.size ⟨#[115, 116, 97, 114, 116]⟩ = 5 := rfl; omega
      have m5 : Sml (twoD (t / 3600) ++ ⟨#[58]⟩ ++ twoD (t / 60 % 60) ++ ⟨#[58]⟩ ++ twoD (t % 60) ++ ⟨#[32]⟩) := by unfold Sml; (try simp only [ByteArray.size_append]); have h58 : ByteArray.size ⟨#[58]⟩ = 1 := rfl; have h32 : ByteArray.size ⟨#[32]⟩ = 1 := rfl; have hw : ByteArray.size ⟨#[115, 116, 97, 114, 116]⟩ = 5 := rfl; omega
      have m6 : Sml (twoD (t / 3600) ++ ⟨#[58]⟩ ++ twoD (t / 60 % 60) ++ ⟨#[58]⟩ ++ twoD (t % 60) ++ ⟨#[32]⟩ ++ ⟨#[115, 116, 97, 114, 116]⟩) := by unfold Sml; (try simp only [ByteArray.size_append]); have h58 : ByteArray.size ⟨#[58]⟩ = 1 := rfl; have h32 : ByteArray.size ⟨#[32]⟩ = 1 := rfl; have hw : ByteArray.size ⟨#[115, 116, 97, 114, 116]⟩ = 5 := rfl; omega
      have m7 : Sml (twoD (t / 60 % 60)) := by unfold Sml; (try simp only [ByteArray.size_append]); have h58 : ByteArray.size ⟨#[58]⟩ = 1 := rfl; have h32 : ByteArray.size ⟨#[32]⟩ = 1 := rfl; have hw : ByteArray.size ⟨#[115, 116, 97, 114, 116]⟩ = 5 := rfl; omega
      have m8 : Sml (twoD (t % 60)) := by unfold Sml; (try simp only [ByteArray.size_append]); have h58 : ByteArray.size ⟨#[58]⟩ = 1 := rfl; have h32 : ByteArray.size ⟨#[32]⟩ = 1 := rfl; have hw : ByteArray.size ⟨#[115, 116, 97, 114, 116]⟩ = 5 := rfl; omega
      have m9 : Sml ((⟨#[58]⟩ : ByteArray)) := by unfold Sml; (try simp only [ByteArray.size_append]); have h58 : ByteArray.size ⟨#[58]⟩ = 1 := rfl; have h32 : ByteArray.size ⟨#[32]⟩ = 1 := rfl; have hw : ByteArray.size ⟨#[115, 116, 97, 114, 116]⟩ = 5 := rfl; omega
      have m10 : Sml ((⟨#[32]⟩ : ByteArray)) := by unfold Sml; (try simp only [ByteArray.size_append]); have h58 : ByteArray.size ⟨#[58]⟩ = 1 := rfl; have h32 : ByteArray.size ⟨#[32]⟩ = 1 := rfl; have hw : ByteArray.size ⟨#[115, 116, 97, 114, 116]⟩ = 5 := rfl; omega
      have m11 : Sml ((⟨#[115, 116, 97, 114, 116]⟩ : ByteArray)) := by unfold Sml; (try simp only [ByteArray.size_append]); have h58 : ByteArray.size ⟨#[58]⟩ = 1 := rfl; have h32 : ByteArray.size ⟨#[32]⟩ = 1 := rfl; have hw : ByteArray.size ⟨#[115, 116, 97, 114, 116]⟩ = 5 := rfl; omega
      have m12 : Sml (numS s) := by unfold Sml; (try simp only [ByteArray.size_append]); have h58 : ByteArray.size ⟨#[58]⟩ = 1 := rfl; have h32 : ByteArray.size ⟨#[32]⟩ = 1 := rfl; have hw : ByteArray.size ⟨#[115, 116, 97, 114, 116]⟩ = 5 := rfl; omega
      have m13 : Sml ((⟨#[32]⟩ : ByteArray) ++ numS s) := by unfold Sml; (try simp only [ByteArray.size_append]); have h58 : ByteArray.size ⟨#[58]⟩ = 1 := rfl; have h32 : ByteArray.size ⟨#[32]⟩ = 1 := rfl; have hw : ByteArray.size ⟨#[115, 116, 97, 114, 116]⟩ = 5 := rfl; omega
      have x0 : ∀ w : World, (Instr.index 101 (.agg #[.string ⟨#[]⟩, .string ⟨#[119, 97, 114, 109, 45, 117, 112]⟩, .string ⟨#[115, 116, 97, 114, 116]⟩, .string ⟨#[101, 110, 100]⟩, .string ⟨#[115, 99, 111, 114, 101]⟩]) (.int .i64 2)).run Tryd.prog w = .ok (.string ⟨#[115, 116, 97, 114, 116]⟩) w := fun _ => by kernel_rfl
      clear hc hsk z1 z2 z3 z4
      go_enter Tryd.func33, Tryd.ntmps33
      go_wp2_with (first | (go_at_call 79; ((with_reducible refine (isDayTimeT_any _ _).mono ?_); rintro e w' ⟨rfl, rfl⟩)) | (go_at_call 80; ((with_reducible refine (within_any _ _ _ _).mono ?_); rintro e w' ⟨rfl, rfl⟩)))
      go_region_held3 (fun w' => w'.cell? ⟨w.heap.size, 0, none⟩ = some (.int .i64 t)) (first | assumption | simp [*, go_sem]) (first | (go_at_call 81; ((with_reducible refine (twoDigits_any _ _ (by omega) (by omega)).mono ?_); rintro e w' ⟨rfl, rfl⟩)))
      go_wp2_with ((go_at_call 82; ((with_reducible refine (itoa_any _ _ hs0 (by omega) (hT.below (by repeat (first | exact Below.refl _ _ | assumption | refine bExt ?_ _ | refine bAlloc ?_ _ | refine bDrewN ?_ _ | refine bDrew ?_ | refine bSet ?_ (by first | exact Nat.le_refl _ | omega | (simp; done) | (simp; omega)) _)))).mono ?_); rintro e w' ⟨rfl, x, rfl⟩)))
      go_ret2
      exact RetSB.mk_ (by rw [HV.out]) rfl (by repeat (first | exact Below.refl _ _ | assumption | refine bExt ?_ _ | refine bAlloc ?_ _ | refine bDrewN ?_ _ | refine bDrew ?_ | refine bSet ?_ (by first | exact Nat.le_refl _ | omega | (simp; done) | (simp; omega)) _))
    · have hs : 0 < s := by omega
      have hsn : ¬ s = 0 := by omega
      have HV : Hid (cueT t 3 s = twoD (t / 3600) ++ ⟨#[58]⟩ ++ twoD (t / 60 % 60) ++ ⟨#[58]⟩ ++ twoD (t % 60) ++ ⟨#[32]⟩ ++ ⟨#[101, 110, 100]⟩ ++ (⟨#[32]⟩ ++ numS s)) := Lib.hid (by rw [cueT, if_pos hc, if_pos hs]; rfl)
      have i2 : inB 3 1 4 = true := rfl
      have m0 : Sml (twoD (t / 3600)) := by unfold Sml; (try simp only [ByteArray.size_append]); have h58 : ByteArray.size ⟨#[58]⟩ = 1 := rfl; have h32 : ByteArray.size ⟨#[32]⟩ = 1 := rfl; have hw : ByteArray.size ⟨#[101, 110, 100]⟩ = 3 := rfl; omega
      have m1 : Sml (twoD (t / 3600) ++ ⟨#[58]⟩) := by unfold Sml; (try simp only [ByteArray.size_append]); have h58 : ByteArray.size ⟨#[58]⟩ = 1 := rfl; have h32 : ByteArray.size ⟨#[32]⟩ = 1 := rfl; have hw : ByteArray.size ⟨#[101, 110, 100]⟩ = 3 := rfl; omega
      have m2 : Sml (twoD (t / 3600) ++ ⟨#[58]⟩ ++ twoD (t / 60 % 60)) := by unfold Sml; (try simp only [ByteArray.size_append]); have h58 : ByteArray.size ⟨#[58]⟩ = 1 := rfl; have h32 : ByteArray.size ⟨#[32]⟩ = 1 := rfl; have hw : ByteArray.size ⟨#[101, 110, 100]⟩ = 3 := rfl; omega
      have m3 : Sml (twoD (t / 3600) ++ ⟨#[58]⟩ ++ twoD (t / 60 % 60) ++ ⟨#[58]⟩) := by unfold Sml; (try simp only [ByteArray.size_append]); have h58 : ByteArray.size ⟨#[58]⟩ = 1 := rfl; have h32 : ByteArray.size ⟨#[32]⟩ = 1 := rfl; have hw : ByteArray.size ⟨#[101, 110, 100]⟩ = 3 := rfl; omega
      have m4 : Sml (twoD (t / 3600) ++ ⟨#[58]⟩ ++ twoD (t / 60 % 60) ++ ⟨#[58]⟩ ++ twoD (t % 60)) := by unfold Sml; (try simp only [ByteArray.size_append]); have h58 : ByteArray.size ⟨#[58]⟩ = 1 := rfl; have h32 : ByteArray.size ⟨#[32]⟩ = 1 := rfl; have hw : ByteArray.size ⟨#[101, 110, 100]⟩ = 3 := rfl; omega
      have m5 : Sml (twoD (t / 3600) ++ ⟨#[58]⟩ ++ twoD (t / 60 % 60) ++ ⟨#[58]⟩ ++ twoD (t % 60) ++ ⟨#[32]⟩) := by unfold Sml; (try simp only [ByteArray.size_append]); have h58 : ByteArray.size ⟨#[58]⟩ = 1 := rfl; have h32 : ByteArray.size ⟨#[32]⟩ = 1 := rfl; have hw : ByteArray.size ⟨#[101, 110, 100]⟩ = 3 := rfl; omega
      have m6 : Sml (twoD (t / 3600) ++ ⟨#[58]⟩ ++ twoD (t / 60 % 60) ++ ⟨#[58]⟩ ++ twoD (t % 60) ++ ⟨#[32]⟩ ++ ⟨#[101, 110, 100]⟩) := by unfold Sml; (try simp only [ByteArray.size_append]); have h58 : ByteArray.size ⟨#[58]⟩ = 1 := rfl; have h32 : ByteArray.size ⟨#[32]⟩ = 1 := rfl; have hw : ByteArray.size ⟨#[101, 110, 100]⟩ = 3 := rfl; omega
      have m7 : Sml (twoD (t / 60 % 60)) := by unfold Sml; (try simp only [ByteArray.size_append]); have h58 : ByteArray.size ⟨#[58]⟩ = 1 := rfl; have h32 : ByteArray.size ⟨#[32]⟩ = 1 := rfl; have hw : ByteArray.size ⟨#[101, 110, 100]⟩ = 3 := rfl; omega
      have m8 : Sml (twoD (t % 60)) := by unfold Sml; (try simp only [ByteArray.size_append]); have h58 : ByteArray.size ⟨#[58]⟩ = 1 := rfl; have h32 : ByteArray.size ⟨#[32]⟩ = 1 := rfl; have hw : ByteArray.size ⟨#[101, 110, 100]⟩ = 3 := rfl; omega
      have m9 : Sml ((⟨#[58]⟩ : ByteArray)) := by unfold Sml; (try simp only [ByteArray.size_append]); have h58 : ByteArray.size ⟨#[58]⟩ = 1 := rfl; have h32 : ByteArray.size ⟨#[32]⟩ = 1 := rfl; have hw : ByteArray.size ⟨#[101, 110, 100]⟩ = 3 := rfl; omega
      have m10 : Sml ((⟨#[32]⟩ : ByteArray)) := by unfold Sml; (try simp only [ByteArray.size_append]); have h58 : ByteArray.size ⟨#[58]⟩ = 1 := rfl; have h32 : ByteArray.size ⟨#[32]⟩ = 1 := rfl; have hw : ByteArray.size ⟨#[101, 110, 100]⟩ = 3 := rfl; omega
      have m11 : Sml ((⟨#[101, 110, 100]⟩ : ByteArray)) := by unfold Sml; (try simp only [ByteArray.size_append]); have h58 : ByteArray.size ⟨#[58]⟩ = 1 := rfl; have h32 : ByteArray.size ⟨#[32]⟩ = 1 := rfl; have hw : ByteArray.size ⟨#[101, 110, 100]⟩ = 3 := rfl; omega
      have m12 : Sml (numS s) := by unfold Sml; (try simp only [ByteArray.size_append]); have h58 : ByteArray.size ⟨#[58]⟩ = 1 := rfl; have h32 : ByteArray.size ⟨#[32]⟩ = 1 := rfl; have hw : ByteArray.size ⟨#[101, 110, 100]⟩ = 3 := rfl; omega
      have m13 : Sml ((⟨#[32]⟩ : ByteArray) ++ numS s) := by unfold Sml; (try simp only [ByteArray.size_append]); have h58 : ByteArray.size ⟨#[58]⟩ = 1 := rfl; have h32 : ByteArray.size ⟨#[32]⟩ = 1 := rfl; have hw : ByteArray.size ⟨#[101, 110, 100]⟩ = 3 := rfl; omega
      have x0 : ∀ w : World, (Instr.index 101 (.agg #[.string ⟨#[]⟩, .string ⟨#[119, 97, 114, 109, 45, 117, 112]⟩, .string ⟨#[115, 116, 97, 114, 116]⟩, .string ⟨#[101, 110, 100]⟩, .string ⟨#[115, 99, 111, 114, 101]⟩]) (.int .i64 3)).run Tryd.prog w = .ok (.string ⟨#[101, 110, 100]⟩) w := fun _ => by kernel_rfl
      clear hc hsk z1 z2 z3 z4
      go_enter Tryd.func33, Tryd.ntmps33
      go_wp2_with (first | (go_at_call 79; ((with_reducible refine (isDayTimeT_any _ _).mono ?_); rintro e w' ⟨rfl, rfl⟩)) | (go_at_call 80; ((with_reducible refine (within_any _ _ _ _).mono ?_); rintro e w' ⟨rfl, rfl⟩)))
      go_region_held3 (fun w' => w'.cell? ⟨w.heap.size, 0, none⟩ = some (.int .i64 t)) (first | assumption | simp [*, go_sem]) (first | (go_at_call 81; ((with_reducible refine (twoDigits_any _ _ (by omega) (by omega)).mono ?_); rintro e w' ⟨rfl, rfl⟩)))
      go_wp2_with ((go_at_call 82; ((with_reducible refine (itoa_any _ _ hs0 (by omega) (hT.below (by repeat (first | exact Below.refl _ _ | assumption | refine bExt ?_ _ | refine bAlloc ?_ _ | refine bDrewN ?_ _ | refine bDrew ?_ | refine bSet ?_ (by first | exact Nat.le_refl _ | omega | (simp; done) | (simp; omega)) _)))).mono ?_); rintro e w' ⟨rfl, x, rfl⟩)))
      go_ret2
      exact RetSB.mk_ (by rw [HV.out]) rfl (by repeat (first | exact Below.refl _ _ | assumption | refine bExt ?_ _ | refine bAlloc ?_ _ | refine bDrewN ?_ _ | refine bDrew ?_ | refine bSet ?_ (by first | exact Nat.le_refl _ | omega | (simp; done) | (simp; omega)) _))
    · have hs : 0 < s := by omega
      have hsn : ¬ s = 0 := by omega
      have HV : Hid (cueT t 4 s = twoD (t / 3600) ++ ⟨#[58]⟩ ++ twoD (t / 60 % 60) ++ ⟨#[58]⟩ ++ twoD (t % 60) ++ ⟨#[32]⟩ ++ ⟨#[115, 99, 111, 114, 101]⟩ ++ (⟨#[32]⟩ ++ numS s)) := Lib.hid (by rw [cueT, if_pos hc, if_pos hs]; rfl)
      have i2 : inB 4 1 4 = true := rfl
      have m0 : Sml (twoD (t / 3600)) := by unfold Sml; (try simp only [ByteArray.size_append]); have h58 : ByteArray.size ⟨#[58]⟩ = 1 := rfl; have h32 : ByteArray.size ⟨#[32]⟩ = 1 := rfl; have hw : ByteArray.size ⟨#[115, 99, 111, 114, 101]⟩ = 5 := rfl; omega
      have m1 : Sml (twoD (t / 3600) ++ ⟨#[58]⟩) := by unfold Sml; (try simp only [ByteArray.size_append]); have h58 : ByteArray.size ⟨#[58]⟩ = 1 := rfl; have h32 : ByteArray.size ⟨#[32]⟩ = 1 := rfl; have hw : ByteArray.size ⟨#[115, 99, 111, 114, 101]⟩ = 5 := rfl; omega
      have m2 : Sml (twoD (t / 3600) ++ ⟨#[58]⟩ ++ twoD (t / 60 % 60)) := by unfold Sml; (try simp only [ByteArray.size_append]); have h58 : ByteArray.size ⟨#[58]⟩ = 1 := rfl; have h32 : ByteArray.size ⟨#[32]⟩ = 1 := rfl; have hw : ByteArray.size ⟨#[115, 99, 111, 114, 101]⟩ = 5 := rfl; omega
      have m3 : Sml (twoD (t / 3600) ++ ⟨#[58]⟩ ++ twoD (t / 60 % 60) ++ ⟨#[58]⟩) := by unfold Sml; (try simp only [ByteArray.size_append]); have h58 : ByteArray.size ⟨#[58]⟩ = 1 := rfl; have h32 : ByteArray.size ⟨#[32]⟩ = 1 := rfl; have hw : ByteArray.size ⟨#[115, 99, 111, 114, 101]⟩ = 5 := rfl; omega
      have m4 : Sml (twoD (t / 3600) ++ ⟨#[58]⟩ ++ twoD (t / 60 % 60) ++ ⟨#[58]⟩ ++ twoD (t % 60)) := by unfold Sml; (try simp only [ByteArray.size_append]); have h58 : ByteArray.size ⟨#[58]⟩ = 1 := rfl; have h32 : ByteArray.size ⟨#[32]⟩ = 1 := rfl; have hw : ByteArray.size ⟨#[115, 99, 111, 114, 101]⟩ = 5 := rfl; omega
      have m5 : Sml (twoD (t / 3600) ++ ⟨#[58]⟩ ++ twoD (t / 60 % 60) ++ ⟨#[58]⟩ ++ twoD (t % 60) ++ ⟨#[32]⟩) := by unfold Sml; (try simp only [ByteArray.size_append]); have h58 : ByteArray.size ⟨#[58]⟩ = 1 := rfl; have h32 : ByteArray.size ⟨#[32]⟩ = 1 := rfl; have hw : ByteArray.size ⟨#[115, 99, 111, 114, 101]⟩ = 5 := rfl; omega
      have m6 : Sml (twoD (t / 3600) ++ ⟨#[58]⟩ ++ twoD (t / 60 % 60) ++ ⟨#[58]⟩ ++ twoD (t % 60) ++ ⟨#[32]⟩ ++ ⟨#[115, 99, 111, 114, 101]⟩) := by unfold Sml; (try simp only [ByteArray.size_append]); have h58 : ByteArray.size ⟨#[58]⟩ = 1 := rfl; have h32 : ByteArray.size ⟨#[32]⟩ = 1 := rfl; have hw : ByteArray.size ⟨#[115, 99, 111, 114, 101]⟩ = 5 := rfl; omega
      have m7 : Sml (twoD (t / 60 % 60)) := by unfold Sml; (try simp only [ByteArray.size_append]); have h58 : ByteArray.size ⟨#[58]⟩ = 1 := rfl; have h32 : ByteArray.size ⟨#[32]⟩ = 1 := rfl; have hw : ByteArray.size ⟨#[115, 99, 111, 114, 101]⟩ = 5 := rfl; omega
      have m8 : Sml (twoD (t % 60)) := by unfold Sml; (try simp only [ByteArray.size_append]); have h58 : ByteArray.size ⟨#[58]⟩ = 1 := rfl; have h32 : ByteArray.size ⟨#[32]⟩ = 1 := rfl; have hw : ByteArray.size ⟨#[115, 99, 111, 114, 101]⟩ = 5 := rfl; omega
      have m9 : Sml ((⟨#[58]⟩ : ByteArray)) := by unfold Sml; (try simp only [ByteArray.size_append]); have h58 : ByteArray.size ⟨#[58]⟩ = 1 := rfl; have h32 : ByteArray.size ⟨#[32]⟩ = 1 := rfl; have hw : ByteArray.size ⟨#[115, 99, 111, 114, 101]⟩ = 5 := rfl; omega
      have m10 : Sml ((⟨#[32]⟩ : ByteArray)) := by unfold Sml; (try simp only [ByteArray.size_append]); have h58 : ByteArray.size ⟨#[58]⟩ = 1 := rfl; have h32 : ByteArray.size ⟨#[32]⟩ = 1 := rfl; have hw : ByteArray.size ⟨#[115, 99, 111, 114, 101]⟩ = 5 := rfl; omega
      have m11 : Sml ((⟨#[115, 99, 111, 114, 101]⟩ : ByteArray)) := by unfold Sml; (try simp only [ByteArray.size_append]); have h58 : ByteArray.size ⟨#[58]⟩ = 1 := rfl; have h32 : ByteArray.size ⟨#[32]⟩ = 1 := rfl; have hw : ByteArray.size ⟨#[115, 99, 111, 114, 101]⟩ = 5 := rfl; omega
      have m12 : Sml (numS s) := by unfold Sml; (try simp only [ByteArray.size_append]); have h58 : ByteArray.size ⟨#[58]⟩ = 1 := rfl; have h32 : ByteArray.size ⟨#[32]⟩ = 1 := rfl; have hw : ByteArray.size ⟨#[115, 99, 111, 114, 101]⟩ = 5 := rfl; omega
      have m13 : Sml ((⟨#[32]⟩ : ByteArray) ++ numS s) := by unfold Sml; (try simp only [ByteArray.size_append]); have h58 : ByteArray.size ⟨#[58]⟩ = 1 := rfl; have h32 : ByteArray.size ⟨#[32]⟩ = 1 := rfl; have hw : ByteArray.size ⟨#[115, 99, 111, 114, 101]⟩ = 5 := rfl; omega
      have x0 : ∀ w : World, (Instr.index 101 (.agg #[.string ⟨#[]⟩, .string ⟨#[119, 97, 114, 109, 45, 117, 112]⟩, .string ⟨#[115, 116, 97, 114, 116]⟩, .string ⟨#[101, 110, 100]⟩, .string ⟨#[115, 99, 111, 114, 101]⟩]) (.int .i64 4)).run Tryd.prog w = .ok (.string ⟨#[115, 99, 111, 114, 101]⟩) w := fun _ => by kernel_rfl
      clear hc hsk z1 z2 z3 z4
      go_enter Tryd.func33, Tryd.ntmps33
      go_wp2_with (first | (go_at_call 79; ((with_reducible refine (isDayTimeT_any _ _).mono ?_); rintro e w' ⟨rfl, rfl⟩)) | (go_at_call 80; ((with_reducible refine (within_any _ _ _ _).mono ?_); rintro e w' ⟨rfl, rfl⟩)))
      go_region_held3 (fun w' => w'.cell? ⟨w.heap.size, 0, none⟩ = some (.int .i64 t)) (first | assumption | simp [*, go_sem]) (first | (go_at_call 81; ((with_reducible refine (twoDigits_any _ _ (by omega) (by omega)).mono ?_); rintro e w' ⟨rfl, rfl⟩)))
      go_wp2_with ((go_at_call 82; ((with_reducible refine (itoa_any _ _ hs0 (by omega) (hT.below (by repeat (first | exact Below.refl _ _ | assumption | refine bExt ?_ _ | refine bAlloc ?_ _ | refine bDrewN ?_ _ | refine bDrew ?_ | refine bSet ?_ (by first | exact Nat.le_refl _ | omega | (simp; done) | (simp; omega)) _)))).mono ?_); rintro e w' ⟨rfl, x, rfl⟩)))
      go_ret2
      exact RetSB.mk_ (by rw [HV.out]) rfl (by repeat (first | exact Below.refl _ _ | assumption | refine bExt ?_ _ | refine bAlloc ?_ _ | refine bDrewN ?_ _ | refine bDrew ?_ | refine bSet ?_ (by first | exact Nat.le_refl _ | omega | (simp; done) | (simp; omega)) _))
end Go.Proofs.YtpjaiihkgeabiaaDoor
namespace Go.Proofs.YtpjaiihkgeabiaaDoor
open Go.RowKit
def wordN : Nat → ByteArray
  | 1 => ⟨#[119, 97, 114, 109, 45, 117, 112]⟩
  | 2 => ⟨#[115, 116, 97, 114, 116]⟩
  | 3 => ⟨#[101, 110, 100]⟩
  | 4 => ⟨#[115, 99, 111, 114, 101]⟩
  | _ => ⟨#[]⟩
theorem wordN_size (j : Nat) : (wordN j).size ≤ 7 := by unfold wordN; split <;> decide
theorem wordN_eq (j : Nat) (h1 : 1 ≤ j) (h4 : j ≤ 4) : wordC j = wordN j := by
  rcases (by omega : j = 1 ∨ j = 2 ∨ j = 3 ∨ j = 4) with rfl | rfl | rfl | rfl <;> rfl
theorem srWords_any (w : World) : Calls Tryd.prog 86 #[] w fun e w' => ∃ g x, e = .returned (.slice (some ⟨g, 0, none⟩) 5 5) ∧ w' = ext w x ∧ ∀ j : Nat, j < 5 → (ext w x).cell? ⟨g, j, none⟩ = some (.string (wordN j)) := by
  go_enter Tryd.func86, Tryd.ntmps86
  go_wp2
  go_ret
  obtain ⟨x, hx⟩ := ext_ex (bAlloc (Below.refl w.heap.size w) (.cells #[.string ⟨#[]⟩, .string ⟨#[119, 97, 114, 109, 45, 117, 112]⟩, .string ⟨#[115, 116, 97, 114, 116]⟩, .string ⟨#[101, 110, 100]⟩, .string ⟨#[115, 99, 111, 114, 101]⟩] 9))
  refine ⟨w.heap.size, x, rfl, hx, fun j hj => ?_⟩
  rw [← hx]
  rcases (by omega : j = 0 ∨ j = 1 ∨ j = 2 ∨ j = 3 ∨ j = 4) with rfl | rfl | rfl | rfl | rfl <;> simp [go_sem, wordN]
set_option maxHeartbeats 4000000 in
theorem specCueText_any (t k s : Int) (w : World) :
    Calls Tryd.prog 34 #[.agg #[.int .i64 t, .int .i64 k, .int .i64 s]] w (RetSB w (cueT t k s) (cueB t k s)) := by
  cases hc : cueB t k s
  · have HV : Hid (cueT t k s = ByteArray.empty) := Lib.hid (by simp [cueT, hc])
    unfold cueB at hc
    go_enter Tryd.func34, Tryd.ntmps34
    go_wp2_with (first | (go_at_call 83; ((with_reducible refine (tiClockT_any _ _).mono ?_); rintro e w' ⟨rfl, rfl⟩)) | (go_at_call 84; ((with_reducible refine (l1In_any _ _ _ _).mono ?_); rintro e w' ⟨rfl, rfl⟩)))
    all_goals first | (go_ret2; exact RetSB.mk_ (by rw [HV.out]; rfl) rfl (by repeat (first | exact Below.refl _ _ | assumption | refine bExt ?_ _ | refine bAlloc ?_ _ | refine bDrewN ?_ _ | refine bDrew ?_ | refine bSet ?_ (by first | exact Nat.le_refl _ | omega | (simp; done) | (simp; omega)) _))) | (exfalso; simp_all; done) | (exfalso; simp_all; exact hc (beq_both (by assumption)))
  · obtain ⟨⟨ht0, ht1⟩, ⟨hk0, hk1⟩, ⟨hs0, hs1⟩, hsk⟩ := cueB_of hc
    have i1 : inB t 0 200000 = true := inB_iff.2 ⟨ht0, ht1⟩
    have i3 : inB s 0 999 = true := inB_iff.2 ⟨hs0, hs1⟩
    have z1 := twoD_size (n := t / 3600) (by omega) (by omega)
    have z2 := twoD_size (n := t / 60 % 60) (by omega) (by omega)
    have z3 := twoD_size (n := t % 60) (by omega) (by omega)
    have z4 := numS_size 2 s hs0 (by omega)
    have e1 : t.tdiv 3600 = t / 3600 := Int.tdiv_eq_ediv_of_nonneg ht0
    have e2 : IntKind.i64.wrap (t / 3600) = t / 3600 := IntWalk.i64_in _ (by omega)
    have e3 : t.tdiv 60 = t / 60 := Int.tdiv_eq_ediv_of_nonneg ht0
    have e4 : IntKind.i64.wrap (t / 60) = t / 60 := IntWalk.i64_in _ (by omega)
    have e5 : (t / 60).tmod 60 = t / 60 % 60 := Int.tmod_eq_emod_of_nonneg (by omega)
    have e6 : t.tmod 60 = t % 60 := Int.tmod_eq_emod_of_nonneg ht0
    obtain ⟨kk, rfl⟩ : ∃ kk : Nat, k = kk := ⟨k.toNat, by omega⟩
    have i2 : inB kk 1 4 = true := inB_iff.2 ⟨hk0, hk1⟩
    have HH : Hid (cueH t kk = twoD (t / 3600) ++ ⟨#[58]⟩ ++ twoD (t / 60 % 60) ++ ⟨#[58]⟩ ++ twoD (t % 60) ++ ⟨#[32]⟩ ++ wordN kk) := Lib.hid (by rw [cueH, wordN_eq kk (by omega) (by omega)])
    have HV : Hid (cueT t kk s = if 0 < s then cueH t kk ++ (⟨#[32]⟩ ++ numS s) else cueH t kk) := Lib.hid (by rw [cueT, if_pos hc])
    have hsk' : Hid (s = 0 ↔ (kk : Int) = 1) := hsk
    have eb : (s == 0) = ((kk : Int) == 1) := by rw [Bool.eq_iff_iff, beq_iff_eq, beq_iff_eq]; exact hsk
    have ed : decide (s = 0) = decide ((kk : Int) = 1) := by rw [decide_eq_decide]; exact hsk
    have z5 := wordN_size kk
    have hk5 : kk < 5 := by omega
    have hkI : (kk : Int) < 5 := by omega
    have m0 : Sml (twoD (t / 3600)) := by unfold Sml; (try simp only [ByteArray.size_append]); have h58 : ByteArray.size ⟨#[58]⟩ = 1 := rfl; have h32 : ByteArray.size ⟨#[32]⟩ = 1 := rfl; omega
    have m1 : Sml (twoD (t / 3600) ++ ⟨#[58]⟩) := by unfold Sml; (try simp only [ByteArray.size_append]); have h58 : ByteArray.size ⟨#[58]⟩ = 1 := rfl; have h32 : ByteArray.size ⟨#[32]⟩ = 1 := rfl; omega
    have m2 : Sml (twoD (t / 3600) ++ ⟨#[58]⟩ ++ twoD (t / 60 % 60)) := by unfold Sml; (try simp only [ByteArray.size_append]); have h58 : ByteArray.size ⟨#[58]⟩ = 1 := rfl; have h32 : ByteArray.size ⟨#[32]⟩ = 1 := rfl; omega
    have m3 : Sml (twoD (t / 3600) ++ ⟨#[58]⟩ ++ twoD (t / 60 % 60) ++ ⟨#[58]⟩) := by unfold Sml; (try simp only [ByteArray.size_append]); have h58 : ByteArray.size ⟨#[58]⟩ = 1 := rfl; have h32 : ByteArray.size ⟨#[32]⟩ = 1 := rfl; omega
    have m4 : Sml (twoD (t / 3600) ++ ⟨#[58]⟩ ++ twoD (t / 60 % 60) ++ ⟨#[58]⟩ ++ twoD (t % 60)) := by unfold Sml; (try simp only [ByteArray.size_append]); have h58 : ByteArray.size ⟨#[58]⟩ = 1 := rfl; have h32 : ByteArray.size ⟨#[32]⟩ = 1 := rfl; omega
    have m5 : Sml (twoD (t / 3600) ++ ⟨#[58]⟩ ++ twoD (t / 60 % 60) ++ ⟨#[58]⟩ ++ twoD (t % 60) ++ ⟨#[32]⟩) := by unfold Sml; (try simp only [ByteArray.size_append]); have h58 : ByteArray.size ⟨#[58]⟩ = 1 := rfl; have h32 : ByteArray.size ⟨#[32]⟩ = 1 := rfl; omega
    have m6 : Sml (twoD (t / 3600) ++ ⟨#[58]⟩ ++ twoD (t / 60 % 60) ++ ⟨#[58]⟩ ++ twoD (t % 60) ++ ⟨#[32]⟩ ++ wordN kk) := by unfold Sml; (try simp only [ByteArray.size_append]); have h58 : ByteArray.size ⟨#[58]⟩ = 1 := rfl; have h32 : ByteArray.size ⟨#[32]⟩ = 1 := rfl; omega
    have m7 : Sml (twoD (t / 60 % 60)) := by unfold Sml; (try simp only [ByteArray.size_append]); have h58 : ByteArray.size ⟨#[58]⟩ = 1 := rfl; have h32 : ByteArray.size ⟨#[32]⟩ = 1 := rfl; omega
    have m8 : Sml (twoD (t % 60)) := by unfold Sml; (try simp only [ByteArray.size_append]); have h58 : ByteArray.size ⟨#[58]⟩ = 1 := rfl; have h32 : ByteArray.size ⟨#[32]⟩ = 1 := rfl; omega
    have m9 : Sml ((⟨#[58]⟩ : ByteArray)) := by unfold Sml; (try simp only [ByteArray.size_append]); have h58 : ByteArray.size ⟨#[58]⟩ = 1 := rfl; have h32 : ByteArray.size ⟨#[32]⟩ = 1 := rfl; omega
    have m10 : Sml ((⟨#[32]⟩ : ByteArray)) := by unfold Sml; (try simp only [ByteArray.size_append]); have h58 : ByteArray.size ⟨#[58]⟩ = 1 := rfl; have h32 : ByteArray.size ⟨#[32]⟩ = 1 := rfl; omega
    have m11 : Sml (wordN kk) := by unfold Sml; (try simp only [ByteArray.size_append]); have h58 : ByteArray.size ⟨#[58]⟩ = 1 := rfl; have h32 : ByteArray.size ⟨#[32]⟩ = 1 := rfl; omega
    have m12 : Sml (numS s) := by unfold Sml; (try simp only [ByteArray.size_append]); have h58 : ByteArray.size ⟨#[58]⟩ = 1 := rfl; have h32 : ByteArray.size ⟨#[32]⟩ = 1 := rfl; omega
    have m13 : Sml ((⟨#[32]⟩ : ByteArray) ++ numS s) := by unfold Sml; (try simp only [ByteArray.size_append]); have h58 : ByteArray.size ⟨#[58]⟩ = 1 := rfl; have h32 : ByteArray.size ⟨#[32]⟩ = 1 := rfl; omega
    clear hc hsk z1 z2 z3 z4 z5
    go_enter Tryd.func34, Tryd.ntmps34
    go_upto_region 3 with (first | (go_at_call 83; ((with_reducible refine (tiClockT_any _ _).mono ?_); rintro e w' ⟨rfl, rfl⟩)) | (go_at_call 84; ((with_reducible refine (l1In_any _ _ _ _).mono ?_); rintro e w' ⟨rfl, rfl⟩)))
    generalize hw0 : w.alloc (.cells #[.int .i64 t, .int .i64 kk, .int .i64 s] 62) = w0 at *
    have hb0 : Below w.heap.size w w0 := by rw [← hw0]; repeat (first | exact Below.refl _ _ | assumption | refine bExt ?_ _ | refine bAlloc ?_ _ | refine bDrewN ?_ _ | refine bDrew ?_ | refine bSet ?_ (by first | exact Nat.le_refl _ | omega | (simp; done) | (simp; omega)) _)
    have hlt : w.heap.size < w0.heap.size := by rw [← hw0]; simp
    have k0 : w0.cell? ⟨w.heap.size, 0, none⟩ = some (.int .i64 t) := by rw [← hw0]; simp [go_sem]
    have k1 : w0.cell? ⟨w.heap.size, 1, none⟩ = some (.int .i64 kk) := by rw [← hw0]; simp [go_sem]
    have k2 : w0.cell? ⟨w.heap.size, 2, none⟩ = some (.int .i64 s) := by rw [← hw0]; simp [go_sem]
    clear hw0
    generalize hp : w.heap.size = p at *
    have Hp := Lib.hid hp
    clear hp
    go_cut [4] (fun v wx => v = .string (twoD (t / 3600) ++ ⟨#[58]⟩ ++ twoD (t / 60 % 60) ++ ⟨#[58]⟩ ++ twoD (t % 60) ++ ⟨#[32]⟩ ++ wordN kk) ∧ Below w0.heap.size w0 wx)
    case first =>
      refine wp_region_held_drew (S := fun w' => w'.cell? ⟨p, 0, none⟩ = some (.int .i64 t) ∧ w'.cell? ⟨p, 1, none⟩ = some (.int .i64 kk)) (by kernel_rfl) ⟨(Below.cell (w := w0) (by repeat (first | exact Below.refl _ _ | assumption | refine bExt ?_ _ | refine bAlloc ?_ _ | refine bDrewN ?_ _ | refine bDrew ?_ | refine bSet ?_ (by first | exact Nat.le_refl _ | omega | (simp; done) | (simp; omega)) _)) (p := ⟨p, 0, none⟩) hlt).trans k0, (Below.cell (w := w0) (by repeat (first | exact Below.refl _ _ | assumption | refine bExt ?_ _ | refine bAlloc ?_ _ | refine bDrewN ?_ _ | refine bDrew ?_ | refine bSet ?_ (by first | exact Nat.le_refl _ | omega | (simp; done) | (simp; omega)) _)) (p := ⟨p, 1, none⟩) hlt).trans k1⟩ (fun hHeld => ?_)
      refine wpAnyH_take (i := 0) (v := ?_) rfl (by kernel_rfl) (by kernel_rfl) (by kernel_rfl) (fun _ _ _ h => h) (Or.inl ⟨by rfl, ?_⟩) (by assumption) ?_
      rotate_left
      · first | (intro w' hSw; (try dsimp only at hSw); go_simp; done) | (intro w' hSw; (try dsimp only at hSw); go_simp; with_reducible rfl)
      try simp only [Act.put, List.setIfInBounds_toArray, List.set_cons_zero, List.set_cons_succ]
      refine wpAnyH_take (i := 1) (v := ?_) rfl (by kernel_rfl) (by kernel_rfl) (by kernel_rfl) (fun _ _ _ h => h) (Or.inl ⟨by rfl, ?_⟩) (by assumption) ?_
      rotate_left
      · first | (intro w' hSw; (try dsimp only at hSw); go_simp; done) | (intro w' hSw; (try dsimp only at hSw); go_simp; with_reducible rfl)
      try simp only [Act.put, List.setIfInBounds_toArray, List.set_cons_zero, List.set_cons_succ]
      refine wpAnyH_take (i := 2) (v := ?_) rfl (by kernel_rfl) (by kernel_rfl) (by kernel_rfl) (fun _ _ _ h => h) (Or.inl ⟨by rfl, ?_⟩) (by assumption) ?_
      rotate_left
      · first | (intro w' hSw; (try dsimp only at hSw); go_simp; done) | (intro w' hSw; (try dsimp only at hSw); go_simp; with_reducible rfl)
      try simp only [Act.put, List.setIfInBounds_toArray, List.set_cons_zero, List.set_cons_succ]
      refine wpAnyH_take (i := 5) (v := ?_) rfl (by kernel_rfl) (by kernel_rfl) (by kernel_rfl) (fun _ _ _ h => h) (Or.inl ⟨by rfl, ?_⟩) (by assumption) ?_
      rotate_left
      · first | (intro w' hSw; (try dsimp only at hSw); go_simp; done) | (intro w' hSw; (try dsimp only at hSw); go_simp; with_reducible rfl)
      try simp only [Act.put, List.setIfInBounds_toArray, List.set_cons_zero, List.set_cons_succ]
      refine wpAnyH_take (i := 6) (v := ?_) rfl (by kernel_rfl) (by kernel_rfl) (by kernel_rfl) (fun _ _ _ h => h) (Or.inl ⟨by rfl, ?_⟩) (by assumption) ?_
      rotate_left
      · first | (intro w' hSw; (try dsimp only at hSw); go_simp; done) | (intro w' hSw; (try dsimp only at hSw); go_simp; with_reducible rfl)
      try simp only [Act.put, List.setIfInBounds_toArray, List.set_cons_zero, List.set_cons_succ]
      refine wpAnyH_take (i := 7) (v := ?_) rfl (by kernel_rfl) (by kernel_rfl) (by kernel_rfl) (fun _ _ _ h => h) (Or.inl ⟨by rfl, ?_⟩) (by assumption) ?_
      rotate_left
      · first | (intro w' hSw; (try dsimp only at hSw); go_simp; done) | (intro w' hSw; (try dsimp only at hSw); go_simp; with_reducible rfl)
      try simp only [Act.put, List.setIfInBounds_toArray, List.set_cons_zero, List.set_cons_succ]
      refine wpAnyH_take (i := 8) (v := ?_) rfl (by kernel_rfl) (by kernel_rfl) (by kernel_rfl) (fun _ _ _ h => h) (Or.inl ⟨by rfl, ?_⟩) (by assumption) ?_
      rotate_left
      · first | (intro w' hSw; (try dsimp only at hSw); go_simp; done) | (intro w' hSw; (try dsimp only at hSw); go_simp; with_reducible rfl)
      try simp only [Act.put, List.setIfInBounds_toArray, List.set_cons_zero, List.set_cons_succ]
      refine wpAnyH_take (i := 12) (v := ?_) rfl (by kernel_rfl) (by kernel_rfl) (by kernel_rfl) (fun _ _ _ h => h) (Or.inl ⟨by rfl, ?_⟩) (by assumption) ?_
      rotate_left
      · first | (intro w' hSw; (try dsimp only at hSw); go_simp; done) | (intro w' hSw; (try dsimp only at hSw); go_simp; with_reducible rfl)
      try simp only [Act.put, List.setIfInBounds_toArray, List.set_cons_zero, List.set_cons_succ]
      refine wpAnyH_take (i := 13) (v := ?_) rfl (by kernel_rfl) (by kernel_rfl) (by kernel_rfl) (fun _ _ _ h => h) (Or.inl ⟨by rfl, ?_⟩) (by assumption) ?_
      rotate_left
      · first | (intro w' hSw; (try dsimp only at hSw); go_simp; done) | (intro w' hSw; (try dsimp only at hSw); go_simp; with_reducible rfl)
      try simp only [Act.put, List.setIfInBounds_toArray, List.set_cons_zero, List.set_cons_succ]
      refine wpAnyH_take (i := 14) (v := ?_) rfl (by kernel_rfl) (by kernel_rfl) (by kernel_rfl) (fun _ _ _ h => h) (Or.inl ⟨by rfl, ?_⟩) (by assumption) ?_
      rotate_left
      · first | (intro w' hSw; (try dsimp only at hSw); go_simp; done) | (intro w' hSw; (try dsimp only at hSw); go_simp; with_reducible rfl)
      try simp only [Act.put, List.setIfInBounds_toArray, List.set_cons_zero, List.set_cons_succ]
      refine wpAnyH_take (i := 19) (v := ?_) rfl (by kernel_rfl) (by kernel_rfl) (by kernel_rfl) (fun _ _ _ h => h) (Or.inl ⟨by rfl, ?_⟩) (by assumption) ?_
      rotate_left
      · first | (intro w' hSw; (try dsimp only at hSw); go_simp; done) | (intro w' hSw; (try dsimp only at hSw); go_simp; with_reducible rfl)
      try simp only [Act.put, List.setIfInBounds_toArray, List.set_cons_zero, List.set_cons_succ]
      refine wpAnyH_take (i := 20) (v := ?_) rfl (by kernel_rfl) (by kernel_rfl) (by kernel_rfl) (fun _ _ _ h => h) (Or.inl ⟨by rfl, ?_⟩) (by assumption) ?_
      rotate_left
      · first | (intro w' hSw; (try dsimp only at hSw); go_simp; done) | (intro w' hSw; (try dsimp only at hSw); go_simp; with_reducible rfl)
      try simp only [Act.put, List.setIfInBounds_toArray, List.set_cons_zero, List.set_cons_succ]
      refine wpAnyH_ready (rs := [3]) (by kernel_rfl) (by simp) ?_
      refine AllReadyH.cons rfl (fun K hK => ?_) AllReadyH.nil
      go_simp
      (go_at_call 85; ((with_reducible refine (srTwo_any _ _ (by omega) (by omega)).mono ?_); rintro e w' ⟨rfl, x, rfl⟩))
      try go_wp2_with fail
      refine hK.out _ _ ⟨(Below.cell (w := w0) (by repeat (first | exact Below.refl _ _ | assumption | refine bExt ?_ _ | refine bAlloc ?_ _ | refine bDrewN ?_ _ | refine bDrew ?_ | refine bSet ?_ (by first | exact Nat.le_refl _ | omega | (simp; done) | (simp; omega)) _)) (p := ⟨p, 0, none⟩) hlt).trans k0, (Below.cell (w := w0) (by repeat (first | exact Below.refl _ _ | assumption | refine bExt ?_ _ | refine bAlloc ?_ _ | refine bDrewN ?_ _ | refine bDrew ?_ | refine bSet ?_ (by first | exact Nat.le_refl _ | omega | (simp; done) | (simp; omega)) _)) (p := ⟨p, 1, none⟩) hlt).trans k1⟩ (fun hHeld => ?_)
      clear hK K
      try simp only [Act.put, List.setIfInBounds_toArray, List.set_cons_zero, List.set_cons_succ]
      refine wpAnyH_take (i := 4) (v := ?_) rfl (by kernel_rfl) (by kernel_rfl) (by kernel_rfl) (fun _ _ _ h => h) (Or.inl ⟨by rfl, ?_⟩) (by assumption) ?_
      rotate_left
      · first | (intro w' hSw; (try dsimp only at hSw); go_simp; done) | (intro w' hSw; (try dsimp only at hSw); go_simp; with_reducible rfl)
      try simp only [Act.put, List.setIfInBounds_toArray, List.set_cons_zero, List.set_cons_succ]
      refine wpAnyH_ready (rs := [9]) (by kernel_rfl) (by simp) ?_
      refine AllReadyH.cons rfl (fun K hK => ?_) AllReadyH.nil
      go_simp
      (go_at_call 85; ((with_reducible refine (srTwo_any _ _ (by omega) (by omega)).mono ?_); rintro e w' ⟨rfl, x, rfl⟩))
      try go_wp2_with fail
      refine hK.out _ _ ⟨(Below.cell (w := w0) (by repeat (first | exact Below.refl _ _ | assumption | refine bExt ?_ _ | refine bAlloc ?_ _ | refine bDrewN ?_ _ | refine bDrew ?_ | refine bSet ?_ (by first | exact Nat.le_refl _ | omega | (simp; done) | (simp; omega)) _)) (p := ⟨p, 0, none⟩) hlt).trans k0, (Below.cell (w := w0) (by repeat (first | exact Below.refl _ _ | assumption | refine bExt ?_ _ | refine bAlloc ?_ _ | refine bDrewN ?_ _ | refine bDrew ?_ | refine bSet ?_ (by first | exact Nat.le_refl _ | omega | (simp; done) | (simp; omega)) _)) (p := ⟨p, 1, none⟩) hlt).trans k1⟩ (fun hHeld => ?_)
      clear hK K
      try simp only [Act.put, List.setIfInBounds_toArray, List.set_cons_zero, List.set_cons_succ]
      refine wpAnyH_take (i := 10) (v := ?_) rfl (by kernel_rfl) (by kernel_rfl) (by kernel_rfl) (fun _ _ _ h => h) (Or.inl ⟨by rfl, ?_⟩) (by assumption) ?_
      rotate_left
      · first | (intro w' hSw; (try dsimp only at hSw); go_simp; done) | (intro w' hSw; (try dsimp only at hSw); go_simp; with_reducible rfl)
      try simp only [Act.put, List.setIfInBounds_toArray, List.set_cons_zero, List.set_cons_succ]
      refine wpAnyH_take (i := 11) (v := ?_) rfl (by kernel_rfl) (by kernel_rfl) (by kernel_rfl) (fun _ _ _ h => h) (Or.inl ⟨by rfl, ?_⟩) (by assumption) ?_
      rotate_left
      · first | (intro w' hSw; (try dsimp only at hSw); go_simp; done) | (intro w' hSw; (try dsimp only at hSw); go_simp; with_reducible rfl)
      try simp only [Act.put, List.setIfInBounds_toArray, List.set_cons_zero, List.set_cons_succ]
      refine wpAnyH_ready (rs := [15]) (by kernel_rfl) (by simp) ?_
      refine AllReadyH.cons rfl (fun K hK => ?_) AllReadyH.nil
      go_simp
      (go_at_call 85; ((with_reducible refine (srTwo_any _ _ (by omega) (by omega)).mono ?_); rintro e w' ⟨rfl, x, rfl⟩))
      try go_wp2_with fail
      refine hK.out _ _ ⟨(Below.cell (w := w0) (by repeat (first | exact Below.refl _ _ | assumption | refine bExt ?_ _ | refine bAlloc ?_ _ | refine bDrewN ?_ _ | refine bDrew ?_ | refine bSet ?_ (by first | exact Nat.le_refl _ | omega | (simp; done) | (simp; omega)) _)) (p := ⟨p, 0, none⟩) hlt).trans k0, (Below.cell (w := w0) (by repeat (first | exact Below.refl _ _ | assumption | refine bExt ?_ _ | refine bAlloc ?_ _ | refine bDrewN ?_ _ | refine bDrew ?_ | refine bSet ?_ (by first | exact Nat.le_refl _ | omega | (simp; done) | (simp; omega)) _)) (p := ⟨p, 1, none⟩) hlt).trans k1⟩ (fun hHeld => ?_)
      clear hK K
      try simp only [Act.put, List.setIfInBounds_toArray, List.set_cons_zero, List.set_cons_succ]
      refine wpAnyH_take (i := 16) (v := ?_) rfl (by kernel_rfl) (by kernel_rfl) (by kernel_rfl) (fun _ _ _ h => h) (Or.inl ⟨by rfl, ?_⟩) (by assumption) ?_
      rotate_left
      · first | (intro w' hSw; (try dsimp only at hSw); go_simp; done) | (intro w' hSw; (try dsimp only at hSw); go_simp; with_reducible rfl)
      try simp only [Act.put, List.setIfInBounds_toArray, List.set_cons_zero, List.set_cons_succ]
      refine wpAnyH_take (i := 17) (v := ?_) rfl (by kernel_rfl) (by kernel_rfl) (by kernel_rfl) (fun _ _ _ h => h) (Or.inl ⟨by rfl, ?_⟩) (by assumption) ?_
      rotate_left
      · first | (intro w' hSw; (try dsimp only at hSw); go_simp; done) | (intro w' hSw; (try dsimp only at hSw); go_simp; with_reducible rfl)
      try simp only [Act.put, List.setIfInBounds_toArray, List.set_cons_zero, List.set_cons_succ]
      refine wpAnyH_ready (rs := [18]) (by kernel_rfl) (by simp) ?_
      refine AllReadyH.cons rfl (fun K hK => ?_) AllReadyH.nil
      go_simp
      (go_at_call 86; ((with_reducible refine (srWords_any _).mono ?_); rintro e w' ⟨g, x, rfl, rfl, hck⟩))
      have hkc := hck kk hk5
      try go_wp2_with fail
      refine hK.out _ _ ⟨(Below.cell (w := w0) (by repeat (first | exact Below.refl _ _ | assumption | refine bExt ?_ _ | refine bAlloc ?_ _ | refine bDrewN ?_ _ | refine bDrew ?_ | refine bSet ?_ (by first | exact Nat.le_refl _ | omega | (simp; done) | (simp; omega)) _)) (p := ⟨p, 0, none⟩) hlt).trans k0, (Below.cell (w := w0) (by repeat (first | exact Below.refl _ _ | assumption | refine bExt ?_ _ | refine bAlloc ?_ _ | refine bDrewN ?_ _ | refine bDrew ?_ | refine bSet ?_ (by first | exact Nat.le_refl _ | omega | (simp; done) | (simp; omega)) _)) (p := ⟨p, 1, none⟩) hlt).trans k1⟩ (fun hHeld => ?_)
      clear hK K
      try simp only [Act.put, List.setIfInBounds_toArray, List.set_cons_zero, List.set_cons_succ]
      refine wpAnyH_take (i := 21) (v := ?_) rfl (by kernel_rfl) (by kernel_rfl) (by kernel_rfl) (fun _ _ _ h => h) (Or.inl ⟨by rfl, ?_⟩) (by assumption) ?_
      rotate_left
      · first | (intro w' hSw; (try dsimp only at hSw); go_simp; done) | (intro w' hSw; (try dsimp only at hSw); go_simp; with_reducible rfl)
      try simp only [Act.put, List.setIfInBounds_toArray, List.set_cons_zero, List.set_cons_succ]
      refine wpAnyH_ready (rs := [22]) (by kernel_rfl) (by simp) ?_
      refine AllReadyH.cons rfl (fun K hK => ?_) AllReadyH.nil
      go_simp
      refine hK.out _ _ ⟨(Below.cell (w := w0) (by repeat (first | exact Below.refl _ _ | assumption | refine bExt ?_ _ | refine bAlloc ?_ _ | refine bDrewN ?_ _ | refine bDrew ?_ | refine bSet ?_ (by first | exact Nat.le_refl _ | omega | (simp; done) | (simp; omega)) _)) (p := ⟨p, 0, none⟩) hlt).trans k0, (Below.cell (w := w0) (by repeat (first | exact Below.refl _ _ | assumption | refine bExt ?_ _ | refine bAlloc ?_ _ | refine bDrewN ?_ _ | refine bDrew ?_ | refine bSet ?_ (by first | exact Nat.le_refl _ | omega | (simp; done) | (simp; omega)) _)) (p := ⟨p, 1, none⟩) hlt).trans k1⟩ (fun hHeld => ?_)
      clear hK K
      try simp only [Act.put, List.setIfInBounds_toArray, List.set_cons_zero, List.set_cons_succ]
      refine wpAnyH_ready (rs := [23]) (by kernel_rfl) (by simp) ?_
      refine AllReadyH.cons rfl (fun K hK => ?_) AllReadyH.nil
      go_simp
      refine hK.out _ _ ⟨(Below.cell (w := w0) (by repeat (first | exact Below.refl _ _ | assumption | refine bExt ?_ _ | refine bAlloc ?_ _ | refine bDrewN ?_ _ | refine bDrew ?_ | refine bSet ?_ (by first | exact Nat.le_refl _ | omega | (simp; done) | (simp; omega)) _)) (p := ⟨p, 0, none⟩) hlt).trans k0, (Below.cell (w := w0) (by repeat (first | exact Below.refl _ _ | assumption | refine bExt ?_ _ | refine bAlloc ?_ _ | refine bDrewN ?_ _ | refine bDrew ?_ | refine bSet ?_ (by first | exact Nat.le_refl _ | omega | (simp; done) | (simp; omega)) _)) (p := ⟨p, 1, none⟩) hlt).trans k1⟩ (fun hHeld => ?_)
      clear hK K
      try simp only [Act.put, List.setIfInBounds_toArray, List.set_cons_zero, List.set_cons_succ]
      refine wpAnyH_ready (rs := [24]) (by kernel_rfl) (by simp) ?_
      refine AllReadyH.cons rfl (fun K hK => ?_) AllReadyH.nil
      go_simp
      refine hK.out _ _ ⟨(Below.cell (w := w0) (by repeat (first | exact Below.refl _ _ | assumption | refine bExt ?_ _ | refine bAlloc ?_ _ | refine bDrewN ?_ _ | refine bDrew ?_ | refine bSet ?_ (by first | exact Nat.le_refl _ | omega | (simp; done) | (simp; omega)) _)) (p := ⟨p, 0, none⟩) hlt).trans k0, (Below.cell (w := w0) (by repeat (first | exact Below.refl _ _ | assumption | refine bExt ?_ _ | refine bAlloc ?_ _ | refine bDrewN ?_ _ | refine bDrew ?_ | refine bSet ?_ (by first | exact Nat.le_refl _ | omega | (simp; done) | (simp; omega)) _)) (p := ⟨p, 1, none⟩) hlt).trans k1⟩ (fun hHeld => ?_)
      clear hK K
      try simp only [Act.put, List.setIfInBounds_toArray, List.set_cons_zero, List.set_cons_succ]
      refine wpAnyH_done (by kernel_rfl) ?_ _
      try go_wp2
      go_meet
      exact ⟨rfl, by repeat (first | exact Below.refl _ _ | assumption | refine bExt ?_ _ | refine bAlloc ?_ _ | refine bDrewN ?_ _ | refine bDrew ?_ | refine bSet ?_ (by first | exact Nat.le_refl _ | omega | (simp; done) | (simp; omega)) _)⟩
    case rest =>
      obtain ⟨rfl, bz⟩ := hcut
      rename World => w1
      have k2' := (bz.cell (p := ⟨p, 2, none⟩) hlt).trans k2
      by_cases hs : 0 < s
      · go_wp2_with ((go_at_call 87; ((with_reducible refine (l1Num_fuel 2 _ _ hs0 (by omega) (by omega) (by omega)).mono ?_); rintro e w' ⟨rfl, x9, rfl⟩)))
        go_ret2
        exact RetSB.mk_ (by rw [HV.out, if_pos hs, HH.out]) rfl (by rw [Hp.out]; exact (hb0.trans (bz.mono (Nat.le_of_lt hlt))).trans ((ext_below _ _).mono (Nat.le_trans (Nat.le_of_lt hlt) bz.size)))
      · go_wp2
        go_ret2
        exact RetSB.mk_ (by rw [HV.out, if_neg (by omega), HH.out]) rfl (by rw [Hp.out]; exact hb0.trans (bz.mono (Nat.le_of_lt hlt)))
end Go.Proofs.YtpjaiihkgeabiaaDoor
