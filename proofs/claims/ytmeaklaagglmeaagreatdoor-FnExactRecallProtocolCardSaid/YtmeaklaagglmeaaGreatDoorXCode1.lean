/- Contracts on the names of elements, in the program and in the reference. Conditions: strings below 2^63 bytes. -/
import Derived.Test.YtmeaklaagglmeaaGreatDoorXCodeP
set_option linter.unusedVariables false
set_option linter.unusedSimpArgs false
set_option maxRecDepth 100000
namespace Go.Proofs.YtmeaklaagglmeaaGreatDoor
open Go.RowKit
theorem okC_no1 {b : Nat} (h1 : b < 48) : okC b = false := by simp [okC]; omega
theorem okC_no2 {b : Nat} (h1 : 57 < b) (h2 : b < 65) : okC b = false := by simp [okC]; omega
theorem okC_no3 {b : Nat} (h1 : 90 < b) : okC b = false := by simp [okC]; omega
theorem okC_yes1 {b : Nat} (h1 : 65 ≤ b) (h2 : b ≤ 90) : okC b = true := by simp [okC]; omega
theorem okC_yes2 {b : Nat} (h1 : 48 ≤ b) (h2 : b ≤ 57) : okC b = true := by simp [okC]; omega
set_option maxHeartbeats 1000000 in
theorem cdName_any (s : ByteArray) (w : World) (hs : s.size ≤ 9223372036854775807) :
  Calls Tryz.prog 159 #[.string s] w fun e w' => e = .returned (.bool (nameB s)) ∧ w = w' := by
 go_enter Tryz.func159, Tryz.ntmps159
 go_wp2
 go_loop [3] (fun i => ∃ k : Nat, k ≤ s.size ∧ i = .int .i64 k ∧ Hid (namesTo s k = true)) (fun i => s.size - (intOf i).toNat)
 case atStart => exact ⟨0, by omega, rfl, rfl⟩
 case round =>
  obtain ⟨k, hk, rfl, HN⟩ := hrel
  by_cases hlt : k < s.size
  ·
   have hbe : byteN s k = s[k].toNat := by unfold byteN; rw [dif_pos hlt]
   have HS := Lib.hid (namesTo_succ s k)
   have HF := Lib.hid (@name_no s k hlt)
   have hb : s[k].toNat < 256 := s[k].toNat_lt
   rw [hbe] at HS HF
   clear hbe
   skip
   by_cases h1 : s[k].toNat < 48
   ·
    have hy : okC s[k].toNat = false := okC_no1 h1
    have g1 : (s[k].toNat : Int) < 48 := by omega
    have g2 : (s[k].toNat : Int) < 65 := by omega
    ·
     have HF2 := Lib.hid (HF.out hy)
     go_wp2
     go_ret
     exact ⟨ret_bool HF2.out.symm, rfl⟩
   ·
    by_cases h2 : s[k].toNat ≤ 57
    ·
     have hy : okC s[k].toNat = true := okC_yes2 (by omega) h2
     have g1 : ¬ (s[k].toNat : Int) < 48 := by omega
     have g2 : (s[k].toNat : Int) < 65 := by omega
     have g3 : ¬ (57 : Int) < s[k].toNat := by omega
     go_wp2
     go_round
     case rel => exact ⟨k + 1, by omega, by go_num, by rw [HS.out, HN.out, hy]; rfl⟩
     case measure => simp [intOf]; omega
    ·
     by_cases h3 : s[k].toNat < 65
     ·
      have hy : okC s[k].toNat = false := okC_no2 (by omega) h3
      have g1 : ¬ (s[k].toNat : Int) < 48 := by omega
      have g2 : (s[k].toNat : Int) < 65 := by omega
      have g3 : (57 : Int) < s[k].toNat := by omega
      ·
       have HF2 := Lib.hid (HF.out hy)
       go_wp2
       go_ret
       exact ⟨ret_bool HF2.out.symm, rfl⟩
     ·
      by_cases h4 : s[k].toNat ≤ 90
      ·
       have hy : okC s[k].toNat = true := okC_yes1 (by omega) h4
       have g1 : ¬ (s[k].toNat : Int) < 65 := by omega
       have g2 : ¬ (90 : Int) < s[k].toNat := by omega
       ·
        go_wp2
        go_round
        case rel => exact ⟨k + 1, by omega, by go_num, by rw [HS.out, HN.out, hy]; rfl⟩
        case measure => simp [intOf]; omega
      ·
       have hy : okC s[k].toNat = false := okC_no3 (by omega)
       have g1 : ¬ (s[k].toNat : Int) < 65 := by omega
       have g2 : (90 : Int) < s[k].toNat := by omega
       have g3 : ¬ (s[k].toNat : Int) < 48 := by omega
       have g4 : (57 : Int) < s[k].toNat := by omega
       ·
        have HF2 := Lib.hid (HF.out hy)
        go_wp2
        go_ret
        exact ⟨ret_bool HF2.out.symm, rfl⟩
  ·
   have HE := Lib.hid (name_end (s := s) (by have := HN.out; rwa [show k = s.size by omega] at this))
   go_wp2_with (go_at_call 87; ((with_reducible refine (l1In_any _ _ _ _).mono ?_); rintro e w' ⟨rfl, rfl⟩))
   go_ret
   exact ⟨ret_bool (by rw [HE.out]), rfl⟩
theorem itByte_any (b : Nat) (hb : b < 256) (w : World) : Calls Tryz.prog 255 #[.int .u8 b] w fun e w' => e = .returned (.bool (okC b)) ∧ w = w' := by
 by_cases h1 : 65 ≤ b
 ·
  have g1 : (65 : Int) ≤ b := by omega
  by_cases h2 : b ≤ 90
  ·
   have g2 : (b : Int) ≤ 90 := by omega
   rw [okC_yes1 h1 h2]
   go_enter Tryz.func255, Tryz.ntmps255
   go_wp2
   go_ret
   exact ⟨rfl, rfl⟩
  ·
   have g2 : ¬ (b : Int) ≤ 90 := by omega
   have g3 : (48 : Int) ≤ b := by omega
   have g4 : ¬ (b : Int) ≤ 57 := by omega
   rw [okC_no3 (by omega)]
   go_enter Tryz.func255, Tryz.ntmps255
   go_wp2
   go_ret
   exact ⟨rfl, rfl⟩
 ·
  have g1 : ¬ (65 : Int) ≤ b := by omega
  by_cases h2 : 48 ≤ b
  ·
   have g2 : (48 : Int) ≤ b := by omega
   by_cases h3 : b ≤ 57
   ·
    have g3 : (b : Int) ≤ 57 := by omega
    rw [okC_yes2 h2 h3]
    go_enter Tryz.func255, Tryz.ntmps255
    go_wp2
    go_ret
    exact ⟨rfl, rfl⟩
   ·
    have g3 : ¬ (b : Int) ≤ 57 := by omega
    rw [okC_no2 (by omega) (by omega)]
    go_enter Tryz.func255, Tryz.ntmps255
    go_wp2
    go_ret
    exact ⟨rfl, rfl⟩
  ·
   have g2 : ¬ (48 : Int) ≤ b := by omega
   rw [okC_no1 (by omega)]
   go_enter Tryz.func255, Tryz.ntmps255
   go_wp2
   go_ret
   exact ⟨rfl, rfl⟩
set_option maxHeartbeats 1000000 in
theorem itName_any (s : ByteArray) (w : World) (hs : s.size ≤ 9223372036854775807) :
  Calls Tryz.prog 209 #[.string s] w fun e w' => e = .returned (.bool (nameB s)) ∧ w = w' := by
 go_enter Tryz.func209, Tryz.ntmps209
 go_wp2
 go_loop [3] (fun i => ∃ k : Nat, k ≤ s.size ∧ i = .int .i64 k ∧ Hid (namesTo s k = true)) (fun i => s.size - (intOf i).toNat)
 case atStart => exact ⟨0, by omega, rfl, rfl⟩
 case round =>
  obtain ⟨k, hk, rfl, HN⟩ := hrel
  by_cases hlt : k < s.size
  ·
   have hbe : byteN s k = s[k].toNat := by unfold byteN; rw [dif_pos hlt]
   have HS := Lib.hid (namesTo_succ s k)
   have HF := Lib.hid (@name_no s k hlt)
   have hb : s[k].toNat < 256 := s[k].toNat_lt
   rw [hbe] at HS HF
   clear hbe
   have cb := fun W => itByte_any s[k].toNat hb W
   by_cases h1 : s[k].toNat < 48
   ·
    have hy : okC s[k].toNat = false := okC_no1 h1
    rw [hy] at cb
    skip
    ·
     have HF2 := Lib.hid (HF.out hy)
     go_wp2_with (go_at_call 255; ((with_reducible refine (cb _).mono ?_); rintro e w' ⟨rfl, rfl⟩))
     go_ret
     exact ⟨ret_bool HF2.out.symm, rfl⟩
   ·
    by_cases h2 : s[k].toNat ≤ 57
    ·
     have hy : okC s[k].toNat = true := okC_yes2 (by omega) h2
     rw [hy] at cb
     skip
     skip
     go_wp2_with (go_at_call 255; ((with_reducible refine (cb _).mono ?_); rintro e w' ⟨rfl, rfl⟩))
     go_round
     case rel => exact ⟨k + 1, by omega, by go_num, by rw [HS.out, HN.out, hy]; rfl⟩
     case measure => simp [intOf]; omega
    ·
     by_cases h3 : s[k].toNat < 65
     ·
      have hy : okC s[k].toNat = false := okC_no2 (by omega) h3
      rw [hy] at cb
      skip
      skip
      ·
       have HF2 := Lib.hid (HF.out hy)
       go_wp2_with (go_at_call 255; ((with_reducible refine (cb _).mono ?_); rintro e w' ⟨rfl, rfl⟩))
       go_ret
       exact ⟨ret_bool HF2.out.symm, rfl⟩
     ·
      by_cases h4 : s[k].toNat ≤ 90
      ·
       have hy : okC s[k].toNat = true := okC_yes1 (by omega) h4
       rw [hy] at cb
       skip
       ·
        go_wp2_with (go_at_call 255; ((with_reducible refine (cb _).mono ?_); rintro e w' ⟨rfl, rfl⟩))
        go_round
        case rel => exact ⟨k + 1, by omega, by go_num, by rw [HS.out, HN.out, hy]; rfl⟩
        case measure => simp [intOf]; omega
      ·
       have hy : okC s[k].toNat = false := okC_no3 (by omega)
       rw [hy] at cb
       skip
       skip
       skip
       ·
        have HF2 := Lib.hid (HF.out hy)
        go_wp2_with (go_at_call 255; ((with_reducible refine (cb _).mono ?_); rintro e w' ⟨rfl, rfl⟩))
        go_ret
        exact ⟨ret_bool HF2.out.symm, rfl⟩
  ·
   have HE := Lib.hid (name_end (s := s) (by have := HN.out; rwa [show k = s.size by omega] at this))
   go_wp2_with (go_at_call 87; ((with_reducible refine (l1In_any _ _ _ _).mono ?_); rintro e w' ⟨rfl, rfl⟩))
   go_ret
   exact ⟨ret_bool (by rw [HE.out]), rfl⟩
set_option maxHeartbeats 1000000 in
theorem isElementName_any (s : ByteArray) (w : World) (hs : s.size ≤ 9223372036854775807) :
  Calls Tryz.prog 107 #[.string s] w fun e w' => e = .returned (.bool (nameB s)) ∧ w = w' := by
 go_enter Tryz.func107, Tryz.ntmps107
 go_wp2
 go_loop [3] (fun i => ∃ k : Nat, k ≤ s.size ∧ i = .int .i64 k ∧ Hid (namesTo s k = true)) (fun i => s.size - (intOf i).toNat)
 case atStart => exact ⟨0, by omega, rfl, rfl⟩
 case round =>
  obtain ⟨k, hk, rfl, HN⟩ := hrel
  by_cases hlt : k < s.size
  ·
   have hbe : byteN s k = s[k].toNat := by unfold byteN; rw [dif_pos hlt]
   have HS := Lib.hid (namesTo_succ s k)
   have HF := Lib.hid (@name_no s k hlt)
   have hb : s[k].toNat < 256 := s[k].toNat_lt
   rw [hbe] at HS HF
   clear hbe
   skip
   by_cases h1 : s[k].toNat < 48
   ·
    have hy : okC s[k].toNat = false := okC_no1 h1
    have g1 : (s[k].toNat : Int) < 48 := by omega
    have g2 : (s[k].toNat : Int) < 65 := by omega
    ·
     have HF2 := Lib.hid (HF.out hy)
     go_wp2
     go_ret
     exact ⟨ret_bool HF2.out.symm, rfl⟩
   ·
    by_cases h2 : s[k].toNat ≤ 57
    ·
     have hy : okC s[k].toNat = true := okC_yes2 (by omega) h2
     have g1 : ¬ (s[k].toNat : Int) < 48 := by omega
     have g2 : (s[k].toNat : Int) < 65 := by omega
     have g3 : ¬ (57 : Int) < s[k].toNat := by omega
     go_wp2
     go_round
     case rel => exact ⟨k + 1, by omega, by go_num, by rw [HS.out, HN.out, hy]; rfl⟩
     case measure => simp [intOf]; omega
    ·
     by_cases h3 : s[k].toNat < 65
     ·
      have hy : okC s[k].toNat = false := okC_no2 (by omega) h3
      have g1 : ¬ (s[k].toNat : Int) < 48 := by omega
      have g2 : (s[k].toNat : Int) < 65 := by omega
      have g3 : (57 : Int) < s[k].toNat := by omega
      ·
       have HF2 := Lib.hid (HF.out hy)
       go_wp2
       go_ret
       exact ⟨ret_bool HF2.out.symm, rfl⟩
     ·
      by_cases h4 : s[k].toNat ≤ 90
      ·
       have hy : okC s[k].toNat = true := okC_yes1 (by omega) h4
       have g1 : ¬ (s[k].toNat : Int) < 65 := by omega
       have g2 : ¬ (90 : Int) < s[k].toNat := by omega
       ·
        go_wp2
        go_round
        case rel => exact ⟨k + 1, by omega, by go_num, by rw [HS.out, HN.out, hy]; rfl⟩
        case measure => simp [intOf]; omega
      ·
       have hy : okC s[k].toNat = false := okC_no3 (by omega)
       have g1 : ¬ (s[k].toNat : Int) < 65 := by omega
       have g2 : (90 : Int) < s[k].toNat := by omega
       have g3 : ¬ (s[k].toNat : Int) < 48 := by omega
       have g4 : (57 : Int) < s[k].toNat := by omega
       ·
        have HF2 := Lib.hid (HF.out hy)
        go_wp2
        go_ret
        exact ⟨ret_bool HF2.out.symm, rfl⟩
  ·
   have HE := Lib.hid (name_end (s := s) (by have := HN.out; rwa [show k = s.size by omega] at this))
   go_wp2_with (go_at_call 91; ((with_reducible refine (within_any _ _ _ _).mono ?_); rintro e w' ⟨rfl, rfl⟩))
   go_ret
   exact ⟨ret_bool (by rw [HE.out]), rfl⟩
theorem isName_any (s : ByteArray) (w : World) (hs : s.size ≤ 9223372036854775807) :
  Calls Tryz.prog 258 #[.string s] w fun e w' => e = .returned (.bool (nameB s)) ∧ w = w' := by
 go_enter Tryz.func258, Tryz.ntmps258
 go_wp2_with (go_at_call 107; ((with_reducible refine (isElementName_any _ _ hs).mono ?_); rintro e w' ⟨rfl, rfl⟩))
 go_ret
 exact ⟨rfl, rfl⟩
end Go.Proofs.YtmeaklaagglmeaaGreatDoor
