/- Contracts on codes of points: an element, a valid code, an element by its name. Conditions: lengths below 2^40, strings below 2^63 bytes. -/
import Derived.Test.YtmeaklaagglmeaaGreatDoorXCode1
import Derived.Deep.RegionHeld3
set_option linter.unusedVariables false
set_option linter.unusedSimpArgs false
set_option maxRecDepth 100000
namespace Go.Proofs.YtmeaklaagglmeaaGreatDoor
open Go.RowKit
def elB (x : El) : Bool := nameB x.1 && (inB x.2.1 0 4 && (inB x.2.2.1 0 4 && inB x.2.2.2 1 2000))
theorem cdElement_any (x : El) (w : World) (hs : x.1.size ≤ 9223372036854775807) :
  Calls Tryz.prog 98 #[.agg #[.string x.1, .int .i64 x.2.1, .int .i64 x.2.2.1, .int .i64 x.2.2.2]] w fun e w' => e = .returned (.bool (elB x)) ∧ ∃ y, w' = ext w y := by
 obtain ⟨s, a, b, c⟩ := x
 have cn := fun W => cdName_any s W hs
 have c1 := fun W => l1In_any a 0 4 W
 have c2 := fun W => l1In_any b 0 4 W
 have c3 := fun W => l1In_any c 1 2000 W
 have HE : Hid (elB (s, a, b, c) = (nameB s && (inB a 0 4 && (inB b 0 4 && inB c 1 2000)))) := rfl
 generalize nameB s = q0 at *
 generalize inB a 0 4 = q1 at *
 generalize inB b 0 4 = q2 at *
 generalize inB c 1 2000 = q3 at *
 go_enter Tryz.func98, Tryz.ntmps98
 cases q0
 ·
  go_wp2_with ((go_at_call 159; ((with_reducible refine (cn _).mono ?_); rintro e w' ⟨rfl, rfl⟩)))
  go_ret
  exact ⟨ret_bool (by rw [HE.out]; rfl), ext_ex bl⟩
 ·
  cases q1
  ·
   go_wp2_with (first | (go_at_call 159; ((with_reducible refine (cn _).mono ?_); rintro e w' ⟨rfl, rfl⟩)) | (go_at_call 87; ((with_reducible refine (c1 _).mono ?_); rintro e w' ⟨rfl, rfl⟩)))
   go_ret
   exact ⟨ret_bool (by rw [HE.out]; rfl), ext_ex bl⟩
  ·
   cases q2
   ·
    go_wp2_with (first | (go_at_call 159; ((with_reducible refine (cn _).mono ?_); rintro e w' ⟨rfl, rfl⟩)) | (go_at_call 87; ((with_reducible refine (c1 _).mono ?_); rintro e w' ⟨rfl, rfl⟩)) | (go_at_call 87; ((with_reducible refine (c2 _).mono ?_); rintro e w' ⟨rfl, rfl⟩)))
    go_ret
    exact ⟨ret_bool (by rw [HE.out]; rfl), ext_ex bl⟩
   ·
    go_wp2_with (first | (go_at_call 159; ((with_reducible refine (cn _).mono ?_); rintro e w' ⟨rfl, rfl⟩)) | (go_at_call 87; ((with_reducible refine (c1 _).mono ?_); rintro e w' ⟨rfl, rfl⟩)) | (go_at_call 87; ((with_reducible refine (c2 _).mono ?_); rintro e w' ⟨rfl, rfl⟩)) | (go_at_call 87; ((with_reducible refine (c3 _).mono ?_); rintro e w' ⟨rfl, rfl⟩)))
    go_ret
    exact ⟨ret_bool (by rw [HE.out]; rfl), ext_ex bl⟩
def eP (l : List El) (s : ByteArray) (i : Nat) : Bool := (l[i]?.getD zEl).1.toList == s.toList
def eI (l : List El) (s : ByteArray) : Nat × Bool := firstIdx (eP l s) l.length
def findE (l : List El) (s : ByteArray) : Int := if (eI l s).2 then (eI l s).1 else -1
theorem eP_hit {l : List El} {s : ByteArray} {k n : Nat} (hl : l.length = n) (hk : k < n) (hb : ∀ j, j < k → Hid (eP l s j = false)) (h : eP l s k = true) : eI l s = (k, true) := firstIdx_hit (by omega) hb h
theorem eP_none {l : List El} {s : ByteArray} {n : Nat} (hl : l.length = n) (hb : ∀ j, j < n → Hid (eP l s j = false)) : eI l s = (0, false) := firstIdx_none (fun j hj => hb j (by omega))
theorem eP_more {l : List El} {s : ByteArray} {k : Nat} (hb : ∀ j, j < k → Hid (eP l s j = false)) (h : eP l s k = false) : ∀ j, j < k + 1 → Hid (eP l s j = false) := fun j hj => by
 by_cases e : j = k
 ·
  subst e; exact h
 ·
  exact hb j (by omega)
set_option maxHeartbeats 400000 in
theorem cdFind_any (w : World) (A B : Option Addr) (n m c d : Nat) (els : List El) (q0 q1 q2 q3 : Int) (s : ByteArray) (ha : RdEl w A n els) (hn : n ≤ 1099511627776) :
  Calls Tryz.prog 279 #[.agg #[.slice A n c, .slice B m d, .int .i64 q0, .int .i64 q1, .int .i64 q2, .int .i64 q3], .string s] w fun e w' => e = .returned (.int .i64 (findE els s)) ∧ ∃ y, w' = ext w y := by
 have Hl := Lib.hid ha.len
 go_enter Tryz.func279, Tryz.ntmps279
 go_wp2
 go_loopw [5, 6, 10] (fun _ _ i wr => ∃ (k : Nat) (y : World), k ≤ n ∧ i = .int .i64 k ∧ wr = ext w y ∧ ∀ j, j < k → Hid (eP els s j = false)) (fun _ _ i _ => n - (intOf i).toNat)
 case atStart => exact ⟨0, (ext_ex bl).choose, by omega, rfl, (ext_ex bl).choose_spec, fun j hj => by omega⟩
 case round =>
  obtain ⟨k, y, hk, rfl, rfl, hno⟩ := hrel
  by_cases hlt : k < n
  ·
   obtain ⟨b, off, rfl, hb, hc0, hc1, hc2, hc3⟩ := ha.at_ k hlt
   obtain ⟨p, hp⟩ : ∃ p, els[k]?.getD zEl = p := ⟨_, rfl⟩
   rw [hp] at hc0 hc1 hc2 hc3
   have HF := Lib.hid (show eP els s k = (p.1.toList == s.toList) by rw [eP, hp])
   clear hp
   cases he : (p.1.toList == s.toList)
   ·
    rw [he] at HF
    go_wp2
    go_roundw
    case rel => exact ⟨k + 1, _, by omega, by go_num, (ext_ex bl).choose_spec, eP_more hno HF.out⟩
    case measure => simp [intOf]; omega
   ·
    rw [he] at HF
    have HH := Lib.hid (eP_hit Hl.out hlt hno HF.out)
    go_wp2
    go_ret
    exact ⟨ret_int (by rw [findE, HH.out]; rfl), ext_ex bl⟩
  ·
   have HH := Lib.hid (eP_none Hl.out (fun j hj => hno j (by omega)))
   go_wp2
   go_ret
   exact ⟨ret_int (by rw [findE, HH.out]; rfl), ext_ex bl⟩
theorem sameName_any (x : El) (s : ByteArray) (g : Nat) (w : World) (hg : w.cell? ⟨g, 0, none⟩ = some (.string s)) (hz : g < w.heap.size) :
  Calls Tryz.prog 290 #[.agg #[.string x.1, .int .i64 x.2.1, .int .i64 x.2.2.1, .int .i64 x.2.2.2], .pointer (some ⟨g, 0, none⟩)] w fun e w' => e = .returned (.bool (x.1.toList == s.toList)) ∧ ∃ y, w' = ext w y := by
 go_enter Tryz.func290, Tryz.ntmps290
 go_wp2
 go_ret
 exact ⟨rfl, ext_ex bl⟩
set_option maxHeartbeats 400000 in
theorem indexName_any (w : World) (A : Option Addr) (n c : Nat) (els : List El) (s : ByteArray) (g : Nat) (hg : w.cell? ⟨g, 0, none⟩ = some (.string s)) (hz : g < w.heap.size) (ha : RdEl w A n els) (hn : n ≤ 1099511627776) :
  Calls Tryz.prog 289 #[.slice A n c, .func (.func 290) #[] #[.pointer (some ⟨g, 0, none⟩)]] w fun e w' => e = .returned (.int .i64 (findE els s)) ∧ ∃ y, w' = ext w y := by
 have Hl := Lib.hid ha.len
 go_enter Tryz.func289, Tryz.ntmps289
 go_wp2
 go_loopw [5, 8] (fun _ i wr => ∃ (k : Nat) (y : World), k ≤ n ∧ i = .int .i64 k ∧ wr = ext w y ∧ ∀ j, j < k → Hid (eP els s j = false)) (fun _ i _ => n - (intOf i).toNat)
 case atStart => exact ⟨0, _, by omega, rfl, ext_self w, fun j hj => by omega⟩
 case round =>
  obtain ⟨k, y, hk, rfl, rfl, hno⟩ := hrel
  by_cases hlt : k < n
  ·
   obtain ⟨b, off, rfl, hb, hc0, hc1, hc2, hc3⟩ := ha.at_ k hlt
   obtain ⟨p, hp⟩ : ∃ p, els[k]?.getD zEl = p := ⟨_, rfl⟩
   rw [hp] at hc0 hc1 hc2 hc3
   have HF := Lib.hid (show eP els s k = (p.1.toList == s.toList) by rw [eP, hp])
   have cs := fun W (h1 : W.cell? ⟨g, 0, none⟩ = some (.string s)) (h2 : g < W.heap.size) => sameName_any p s g W h1 h2
   have hge : (ext w y).cell? ⟨g, 0, none⟩ = some (.string s) := ((ext_below w y).cell (p := ⟨g, 0, none⟩) hz).trans hg
   have hze : g < (ext w y).heap.size := Nat.lt_of_lt_of_le hz (ext_le w y)
   clear hp
   cases he : (p.1.toList == s.toList)
   ·
    rw [he] at HF
    simp only [he] at cs
    go_wp2_with ((go_at_call 290; ((with_reducible refine (cs _ hge hze).mono ?_); rintro e w' ⟨rfl, y2, rfl⟩)))
    go_roundw
    case rel => exact ⟨k + 1, _, by omega, by go_num, (ext_ex bl).choose_spec, eP_more hno HF.out⟩
    case measure => simp [intOf]; omega
   ·
    rw [he] at HF
    simp only [he] at cs
    have HH := Lib.hid (eP_hit Hl.out hlt hno HF.out)
    go_wp2_with ((go_at_call 290; ((with_reducible refine (cs _ hge hze).mono ?_); rintro e w' ⟨rfl, y2, rfl⟩)))
    go_ret
    exact ⟨ret_int (by rw [findE, HH.out]; rfl), ext_ex bl⟩
  ·
   have HH := Lib.hid (eP_none Hl.out (fun j hj => hno j (by omega)))
   go_wp2
   go_ret
   exact ⟨ret_int (by rw [findE, HH.out]; rfl), ext_ex bl⟩
theorem findElement_any (w : World) (A B : Option Addr) (n m c d : Nat) (els : List El) (q0 q1 q2 q3 : Int) (s : ByteArray) (ha : RdEl w A n els) (hn : n ≤ 1099511627776) :
  Calls Tryz.prog 273 #[.agg #[.slice A n c, .slice B m d, .int .i64 q0, .int .i64 q1, .int .i64 q2, .int .i64 q3], .string s] w fun e w' => e = .returned (.int .i64 (findE els s)) ∧ ∃ y, w' = ext w y := by
 go_enter Tryz.func273, Tryz.ntmps273
 go_wp2_with ((go_at_call 289; ((with_reducible refine (indexName_any _ A n c els s _ (by simp [go_sem]) (by simp) (ha.below bl) hn).mono ?_); rintro e w' ⟨rfl, y, rfl⟩)))
 go_ret
 exact ⟨rfl, ext_ex bl⟩
end Go.Proofs.YtmeaklaagglmeaaGreatDoor
