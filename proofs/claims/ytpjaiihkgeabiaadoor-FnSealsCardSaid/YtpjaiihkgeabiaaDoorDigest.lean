/- Contracts of the digest of a string and of the links of a chain, in the program and in the reference. Conditions: strings below 2^40 bytes. -/
import Derived.Test.YtpjaiihkgeabiaaDoorL1
set_option linter.unusedVariables false
set_option linter.unusedSimpArgs false
set_option maxRecDepth 100000
namespace Go.Proofs.YtpjaiihkgeabiaaDoor
open Go.RowKit
def dgX (a b : Int) : Int := (37 * a + b + 3) % 1000003
def dgM (x : Int) : Int := x * (x / 8 + 7)
def byteAt (s : ByteArray) (i : Nat) : Int := if h : i < s.size then (s[i].toNat : Int) else if s.size < i then 5 else 2
def digTo (s : ByteArray) : Nat → Int
  | 0 => 6211 + s.size
  | i + 1 => dgM (dgX (digTo s i) (byteAt s i)) % 1000003
def digest (s : ByteArray) : Int := digTo s (s.size + 2)
theorem dgX_bd (a b : Int) : 0 ≤ dgX a b ∧ dgX a b ≤ 1000002 := by unfold dgX; omega
theorem dgM_bd {x : Int} (h0 : 0 ≤ x) (h1 : x ≤ 1000002) : 0 ≤ dgM x ∧ dgM x ≤ 1000000000000 := by
  unfold dgM
  have h2 : 0 ≤ x / 8 + 7 := by omega
  have h3 : x / 8 + 7 ≤ 200000 := by omega
  refine ⟨Int.mul_nonneg h0 h2, ?_⟩
  calc x * (x / 8 + 7) ≤ 1000002 * (x / 8 + 7) := Int.mul_le_mul_of_nonneg_right h1 h2
    _ ≤ 1000002 * 200000 := Int.mul_le_mul_of_nonneg_left h3 (by omega)
    _ ≤ 1000000000000 := by omega
theorem byteAt_bd (s : ByteArray) (i : Nat) : 0 ≤ byteAt s i ∧ byteAt s i ≤ 255 := by
  unfold byteAt
  split
  · have := UInt8.toNat_lt (s[i]); omega
  · split <;> omega
theorem digTo_bd (s : ByteArray) (i : Nat) : 0 ≤ digTo s i ∧ digTo s i ≤ 1000002 + s.size := by
  cases i with
  | zero => simp only [digTo]; omega
  | succ i => simp only [digTo]; omega
theorem digest_bd (s : ByteArray) : 0 ≤ digest s ∧ digest s ≤ 1000002 := by unfold digest; simp only [digTo]; omega
theorem dg_walk (a b : Int) : (wrap64 ((37 * a + b + 3) % 1000003 * ((37 * a + b + 3) % 1000003 / 8 + 7))).tmod 1000003 = dgM (dgX a b) % 1000003 := by
  have h1 := dgX_bd a b
  have h2 := dgM_bd h1.1 h1.2
  show (wrap64 (dgM (dgX a b))).tmod 1000003 = _
  rw [IntWalk.wrap64_in _ (by omega), Int.tmod_eq_emod_of_nonneg (by omega)]
set_option maxHeartbeats 1000000 in
theorem chDigest_any (s : ByteArray) (w : World) (hs : s.size ≤ 1099511627776) :
    Calls Tryd.prog 94 #[.string s] w fun e w' => e = .returned (.int .i64 (digest s)) ∧ w = w' := by
  go_enter Tryd.func94, Tryd.ntmps94
  go_wp2
  go_loop [3, 4, 5] (fun a i _ => ∃ k : Nat, k ≤ s.size + 2 ∧ i = .int .i64 k ∧ a = .int .i64 (digTo s k)) (fun _ i _ => s.size + 2 - (intOf i).toNat)
  case atStart => exact ⟨0, by omega, rfl, rfl⟩
  case round =>
    obtain ⟨k, hk, rfl, rfl⟩ := hrel
    have hb := digTo_bd s k
    have HD : Hid (digTo s (k + 1) = dgM (dgX (digTo s k) (byteAt s k)) % 1000003) := rfl
    by_cases hend : k < s.size + 2
    · generalize digTo s k = a at *
      by_cases hlt : k < s.size
      · have hbb := byteAt_bd s k
        have hbe : byteAt s k = (s[k].toNat : Int) := by unfold byteAt; rw [dif_pos hlt]
        rw [hbe] at hbb HD
        clear hbe
        go_wp2
        go_round
        case rel => exact ⟨k + 1, by omega, by go_num, by rw [HD.out, dg_walk]⟩
        case measure => simp [intOf]; omega
      · by_cases heq : s.size < k
        · have hbe : byteAt s k = 5 := by unfold byteAt; rw [dif_neg hlt, if_pos heq]
          rw [hbe] at HD
          clear hbe
          go_wp2
          go_round
          case rel => exact ⟨k + 1, by omega, by go_num, by rw [HD.out, ← dg_walk]⟩
          case measure => simp [intOf]; omega
        · have hbe : byteAt s k = 2 := by unfold byteAt; rw [dif_neg hlt, if_neg heq]
          rw [hbe] at HD
          clear hbe
          go_wp2
          go_round
          case rel => exact ⟨k + 1, by omega, by go_num, by rw [HD.out, ← dg_walk]⟩
          case measure => simp [intOf]; omega
    · have hke := Lib.hid (show k = s.size + 2 by omega)
      go_wp2
      go_ret
      exact ⟨ret_int (by rw [hke.out]; rfl), rfl⟩
set_option maxHeartbeats 1000000 in
theorem digestOf_any (s : ByteArray) (w : World) (hs : s.size ≤ 1099511627776) :
    Calls Tryd.prog 91 #[.string s] w fun e w' => e = .returned (.int .i64 (digest s)) ∧ w = w' := by
  go_enter Tryd.func91, Tryd.ntmps91
  go_wp2
  go_loop [3, 4, 5, 12] (fun a _ _ i => ∃ k : Nat, k ≤ s.size + 2 ∧ i = .int .i64 k ∧ a = .int .i64 (digTo s k)) (fun _ _ _ i => s.size + 2 - (intOf i).toNat)
  case atStart => exact ⟨0, by omega, rfl, rfl⟩
  case round =>
    obtain ⟨k, hk, rfl, rfl⟩ := hrel
    have hb := digTo_bd s k
    have HD : Hid (digTo s (k + 1) = dgM (dgX (digTo s k) (byteAt s k)) % 1000003) := rfl
    by_cases hend : k < s.size + 2
    · generalize digTo s k = a at *
      by_cases hlt : k < s.size
      · have hbb := byteAt_bd s k
        have hbe : byteAt s k = (s[k].toNat : Int) := by unfold byteAt; rw [dif_pos hlt]
        rw [hbe] at hbb HD
        clear hbe
        go_wp2
        go_round
        case rel => exact ⟨k + 1, by omega, by go_num, by rw [HD.out, dg_walk]⟩
        case measure => simp [intOf]; omega
      · by_cases heq : s.size < k
        · have hbe : byteAt s k = 5 := by unfold byteAt; rw [dif_neg hlt, if_pos heq]
          rw [hbe] at HD
          clear hbe
          go_wp2
          go_round
          case rel => exact ⟨k + 1, by omega, by go_num, by rw [HD.out, ← dg_walk]⟩
          case measure => simp [intOf]; omega
        · have hbe : byteAt s k = 2 := by unfold byteAt; rw [dif_neg hlt, if_neg heq]
          rw [hbe] at HD
          clear hbe
          go_wp2
          go_round
          case rel => exact ⟨k + 1, by omega, by go_num, by rw [HD.out, ← dg_walk]⟩
          case measure => simp [intOf]; omega
    · have hke := Lib.hid (show k = s.size + 2 by omega)
      go_wp2
      go_ret
      exact ⟨ret_int (by rw [hke.out]; rfl), rfl⟩
theorem chRecord_any (s : ByteArray) (w : World) (hs : s.size ≤ 9223372036854775807) :
    Calls Tryd.prog 69 #[.string s] w fun e w' => e = .returned (.bool (decide (s.size ≤ 400))) ∧ w = w' := by
  by_cases h : s.size ≤ 400
  all_goals
    go_enter Tryd.func69, Tryd.ntmps69
    go_wp2
    go_ret
    simp [h]
    omega
def digV (s : ByteArray) : Int := if s.size ≤ 400 then digest s else 0
def linkV (before : Int) (s : ByteArray) : Int := (41 * before + 23 * digest s + 1) % 1000003
theorem linkV_bd (before : Int) (s : ByteArray) : 0 ≤ linkV before s ∧ linkV before s ≤ 1000002 := by unfold linkV; omega
theorem chNext_any (before : Int) (s : ByteArray) (w : World) (hs : s.size ≤ 1099511627776) (hb0 : 0 ≤ before) (hb1 : before ≤ 1000002) :
    Calls Tryd.prog 70 #[.int .i64 before, .string s] w fun e w' => e = .returned (.int .i64 (linkV before s)) ∧ w = w' := by
  have hd := digest_bd s
  unfold linkV
  go_enter Tryd.func70, Tryd.ntmps70
  go_wp2_with (go_at_call 94; ((with_reducible refine (chDigest_any _ _ hs).mono ?_); rintro e w' ⟨rfl, rfl⟩))
  go_ret
  exact ⟨rfl, rfl⟩
theorem linkOf_any (before : Int) (s : ByteArray) (w : World) (hs : s.size ≤ 1099511627776) (hb0 : 0 ≤ before) (hb1 : before ≤ 1000002) :
    Calls Tryd.prog 66 #[.int .i64 before, .string s] w fun e w' => e = .returned (.int .i64 (linkV before s)) ∧ w = w' := by
  have hd := digest_bd s
  unfold linkV
  go_enter Tryd.func66, Tryd.ntmps66
  go_wp2_with (go_at_call 91; ((with_reducible refine (digestOf_any _ _ hs).mono ?_); rintro e w' ⟨rfl, rfl⟩))
  go_ret
  exact ⟨rfl, rfl⟩
theorem chLink_any (a : Int) (w : World) :
    Calls Tryd.prog 53 #[.int .i64 a] w fun e w' => e = .returned (.bool (inB a 0 1000002)) ∧ w = w' := by
  go_enter Tryd.func53, Tryd.ntmps53
  go_wp2_with (go_at_call 84; ((with_reducible refine (l1In_any _ _ _ _).mono ?_); rintro e w' ⟨rfl, rfl⟩))
  go_ret
  exact ⟨rfl, rfl⟩
theorem isLink_any (a : Int) (w : World) :
    Calls Tryd.prog 50 #[.int .i64 a] w fun e w' => e = .returned (.bool (inB a 0 1000002)) ∧ w = w' := by
  go_enter Tryd.func50, Tryd.ntmps50
  go_wp2_with (go_at_call 80; ((with_reducible refine (within_any _ _ _ _).mono ?_); rintro e w' ⟨rfl, rfl⟩))
  go_ret
  exact ⟨rfl, rfl⟩
def linkOk (before : Int) (s : ByteArray) : Bool := inB before 0 1000002 && decide (s.size ≤ 400)
def linkR (before : Int) (s : ByteArray) : Int := if linkOk before s then linkV before s else 0
theorem specLinkOf_any (before : Int) (s : ByteArray) (w : World) (hs : s.size ≤ 9223372036854775807) :
    Calls Tryd.prog 26 #[.int .i64 before, .string s] w fun e w' => e = .returned (.tuple #[.int .i64 (linkR before s), .bool (linkOk before s)]) ∧ w = w' := by
  unfold linkR
  cases hk : linkOk before s
  · unfold linkOk at hk
    go_enter Tryd.func26, Tryd.ntmps26
    go_wp2_with (first | (go_at_call 53; ((with_reducible refine (chLink_any _ _).mono ?_); rintro e w' ⟨rfl, rfl⟩)) | (go_at_call 69; ((with_reducible refine (chRecord_any _ _ hs).mono ?_); rintro e w' ⟨rfl, rfl⟩)))
    all_goals first | (go_ret2; exact ⟨rfl, rfl⟩) | (exfalso; simp_all; done) | (exfalso; simp_all; omega)
  · simp only [linkOk, Bool.and_eq_true] at hk
    obtain ⟨h1, h2⟩ := hk
    have h3 := inB_iff.1 h1
    have h4 : s.size ≤ 400 := by simpa using h2
    go_enter Tryd.func26, Tryd.ntmps26
    go_wp2_with (first | (go_at_call 53; ((with_reducible refine (chLink_any _ _).mono ?_); rintro e w' ⟨rfl, rfl⟩)) | (go_at_call 69; ((with_reducible refine (chRecord_any _ _ hs).mono ?_); rintro e w' ⟨rfl, rfl⟩)) | (go_at_call 70; ((with_reducible refine (chNext_any _ _ _ (by omega) h3.1 h3.2).mono ?_); rintro e w' ⟨rfl, rfl⟩)))
    go_ret2
    exact ⟨rfl, rfl⟩
theorem implLinkOf_any (before : Int) (s : ByteArray) (w : World) (hs : s.size ≤ 9223372036854775807) :
    Calls Tryd.prog 25 #[.int .i64 before, .string s] w fun e w' => e = .returned (.tuple #[.int .i64 (linkR before s), .bool (linkOk before s)]) ∧ w = w' := by
  unfold linkR
  cases hk : linkOk before s
  · unfold linkOk at hk
    go_enter Tryd.func25, Tryd.ntmps25
    go_wp2_with (first | (go_at_call 50; ((with_reducible refine (isLink_any _ _).mono ?_); rintro e w' ⟨rfl, rfl⟩)))
    all_goals first | (go_ret2; exact ⟨rfl, rfl⟩) | (exfalso; simp_all; done) | (exfalso; simp_all; omega)
  · simp only [linkOk, Bool.and_eq_true] at hk
    obtain ⟨h1, h2⟩ := hk
    have h3 := inB_iff.1 h1
    have h4 : s.size ≤ 400 := by simpa using h2
    go_enter Tryd.func25, Tryd.ntmps25
    go_wp2_with (first | (go_at_call 50; ((with_reducible refine (isLink_any _ _).mono ?_); rintro e w' ⟨rfl, rfl⟩)) | (go_at_call 66; ((with_reducible refine (linkOf_any _ _ _ (by omega) h3.1 h3.2).mono ?_); rintro e w' ⟨rfl, rfl⟩)))
    go_ret2
    exact ⟨rfl, rfl⟩
end Go.Proofs.YtpjaiihkgeabiaaDoor
