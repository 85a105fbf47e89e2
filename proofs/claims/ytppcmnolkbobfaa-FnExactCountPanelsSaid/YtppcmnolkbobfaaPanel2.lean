/- Contracts of LargestPanel and of what it calls, in the program and in the reference. Conditions: lengths below 2^40. -/
import Derived.Test.YtppcmnolkbobfaaElig
set_option linter.unusedVariables false
set_option linter.unusedSimpArgs false
set_option maxRecDepth 100000
namespace Go.Proofs.Ytppcmnolkbobfaa
open Go.ChangeShapes Go.WideShapes Go.ChangeAt Go.RowKit
def fP (l : List T3) (x : Int) (i : Nat) : Bool := (l[i]?.getD z3).1 == x
def fI (l : List T3) (x : Int) : Nat × Bool := firstIdx (fP l x) l.length
def findV (l : List T3) (x : Int) : Int := if (fI l x).2 then (fI l x).1 else -1
def clubV (l : List T3) (x : Int) : Int := if (fI l x).2 then (l[(fI l x).1]?.getD z3).2.1 else 0
theorem fI_lt {l : List T3} {x : Int} (h : (fI l x).2 = true) : (fI l x).1 < l.length ∧ (l[(fI l x).1]?.getD z3).1 = x := by
  unfold fI firstIdx at *
  cases hf : (List.range l.length).find? (fP l x) with
  | none => rw [hf] at h; cases h
  | some i =>
    have h1 := List.mem_of_find?_eq_some hf
    have h2 := List.find?_some hf
    exact ⟨by simpa using h1, by simpa [fP] using h2⟩
theorem fI_has {l : List T3} {x : Int} (h : x ∈ l.map (·.1)) : (fI l x).2 = true := by
  obtain ⟨p, hp, e⟩ := List.mem_map.1 h
  obtain ⟨i, hi, rfl⟩ := List.mem_iff_getElem.1 hp
  unfold fI firstIdx
  cases hf : (List.range l.length).find? (fP l x) with
  | none =>
    have := List.find?_eq_none.1 hf i (by simpa using hi)
    exact absurd (show fP l x i = true by simp [fP, hi, e]) this
  | some i => rfl
theorem offs_at {l : List T3} (h : offsB l = true) (i : Nat) (hi : i < l.length) : (1 ≤ (l[i]?.getD z3).1 ∧ (l[i]?.getD z3).1 ≤ 999) ∧ (1 ≤ (l[i]?.getD z3).2.1 ∧ (l[i]?.getD z3).2.1 ≤ 20) := by
  simp only [offsB, Bool.and_eq_true] at h
  have h1 := List.all_eq_true.1 h.1 i (by simpa using hi)
  rw [offOkAt_eq rfl] at h1
  simp only [Bool.and_eq_true] at h1
  exact ⟨inB_iff.1 h1.1.1.1, inB_iff.1 h1.1.2⟩
theorem clubV_bd {l : List T3} (h : offsB l = true) (x : Int) : 0 ≤ clubV l x ∧ clubV l x ≤ 20 := by
  unfold clubV
  cases hf : (fI l x).2
  · simp
  · have := (offs_at h _ (fI_lt hf).1).2; simp only [if_true]; omega
theorem clubV_find {l : List T3} {x : Int} (h : (fI l x).2 = true) : clubV l x = (l[(fI l x).1]?.getD z3).2.1 ∧ findV l x = (fI l x).1 := by simp [clubV, findV, h]
theorem fP_hit {l : List T3} {x : Int} {k n : Nat} (hl : l.length = n) (hk : k < n) (hb : ∀ j, j < k → Hid (fP l x j = false)) (h : fP l x k = true) : fI l x = (k, true) := firstIdx_hit (by omega) hb h
theorem fP_none {l : List T3} {x : Int} {n : Nat} (hl : l.length = n) (hb : ∀ j, j < n → Hid (fP l x j = false)) : fI l x = (0, false) := firstIdx_none (fun j hj => hb j (by omega))
theorem fP_more {l : List T3} {x : Int} {k : Nat} (hb : ∀ j, j < k → Hid (fP l x j = false)) (h : fP l x k = false) : ∀ j, j < k + 1 → Hid (fP l x j = false) := fun j hj => by
  by_cases e : j = k
  · subst e; exact h
  · exact hb j (by omega)
set_option maxHeartbeats 400000 in
theorem paFind_any (w : World) (A : Option Addr) (n c : Nat) (l : List T3) (x : Int) (ha : Rd3 w A n l) (hn : n ≤ 1099511627776) :
    Calls Try.prog 184 #[.slice A n c, .int .i64 x] w fun e w' => e = .returned (.int .i64 (findV l x)) ∧ ∃ y, w' = ext w y := by
  have Hl := Lib.hid ha.len
  go_enter Try.func184, Try.ntmps184
  go_wp2
  go_loopw [6, 9] (fun _ i wr => ∃ (k : Nat) (y : World), k ≤ n ∧ i = .int .i64 k ∧ wr = ext w y ∧ ∀ j, j < k → Hid (fP l x j = false)) (fun _ i _ => n - (intOf i).toNat)
  case atStart => exact ⟨0, _, by omega, rfl, ext_self w, fun j hj => by omega⟩
  case round =>
    obtain ⟨k, y, hk, rfl, rfl, hno⟩ := hrel
    by_cases hlt : k < n
    · obtain ⟨b, off, rfl, hb, hc0, hc1, hc2⟩ := ha.at_ k hlt
      obtain ⟨p, hp⟩ : ∃ p, l[k]?.getD z3 = p := ⟨_, rfl⟩
      rw [hp] at hc0 hc1 hc2
      have HP := Lib.hid hp
      have HF := Lib.hid (show fP l x k = (p.1 == x) by rw [fP, hp])
      clear hp
      cases he : (p.1 == x)
      · rw [he] at HF
        go_wp2
        go_roundw
        case rel => exact ⟨k + 1, _, by omega, by go_num, (ext_ex (by repeat (first | exact Below.refl _ _ | assumption | refine bExt ?_ _ | refine bAlloc ?_ _ | refine bDrewN ?_ _ | refine bDrew ?_ | refine bSet ?_ (by first | exact Nat.le_refl _ | omega | (simp; done) | (simp; omega)) _))).choose_spec, fP_more hno HF.out⟩
        case measure => simp [intOf]; omega
      · rw [he] at HF
        have HH := Lib.hid (fP_hit Hl.out hlt hno HF.out)
        go_wp2
        go_ret
        exact ⟨ret_int (by rw [findV, HH.out]; rfl), ext_ex (by repeat (first | exact Below.refl _ _ | assumption | refine bExt ?_ _ | refine bAlloc ?_ _ | refine bDrewN ?_ _ | refine bDrew ?_ | refine bSet ?_ (by first | exact Nat.le_refl _ | omega | (simp; done) | (simp; omega)) _))⟩
    · have HH := Lib.hid (fP_none Hl.out (fun j hj => hno j (by omega)))
      go_wp2
      go_ret
      exact ⟨ret_int (by rw [findV, HH.out]; rfl), ext_ex (by repeat (first | exact Below.refl _ _ | assumption | refine bExt ?_ _ | refine bAlloc ?_ _ | refine bDrewN ?_ _ | refine bDrew ?_ | refine bSet ?_ (by first | exact Nat.le_refl _ | omega | (simp; done) | (simp; omega)) _))⟩
set_option maxHeartbeats 400000 in
theorem clubOf_any (w : World) (A : Option Addr) (n c : Nat) (l : List T3) (x : Int) (ha : Rd3 w A n l) (hn : n ≤ 1099511627776) :
    Calls Try.prog 187 #[.slice A n c, .int .i64 x] w fun e w' => e = .returned (.int .i64 (clubV l x)) ∧ ∃ y, w' = ext w y := by
  have Hl := Lib.hid ha.len
  go_enter Try.func187, Try.ntmps187
  go_wp2
  go_loopw [6, 9] (fun _ i wr => ∃ (k : Nat) (y : World), k ≤ n ∧ i = .int .i64 k ∧ wr = ext w y ∧ ∀ j, j < k → Hid (fP l x j = false)) (fun _ i _ => n - (intOf i).toNat)
  case atStart => exact ⟨0, _, by omega, rfl, ext_self w, fun j hj => by omega⟩
  case round =>
    obtain ⟨k, y, hk, rfl, rfl, hno⟩ := hrel
    by_cases hlt : k < n
    · obtain ⟨b, off, rfl, hb, hc0, hc1, hc2⟩ := ha.at_ k hlt
      obtain ⟨p, hp⟩ : ∃ p, l[k]?.getD z3 = p := ⟨_, rfl⟩
      rw [hp] at hc0 hc1 hc2
      have HP := Lib.hid hp
      have HF := Lib.hid (show fP l x k = (p.1 == x) by rw [fP, hp])
      clear hp
      cases he : (p.1 == x)
      · rw [he] at HF
        go_wp2
        go_roundw
        case rel => exact ⟨k + 1, _, by omega, by go_num, (ext_ex (by repeat (first | exact Below.refl _ _ | assumption | refine bExt ?_ _ | refine bAlloc ?_ _ | refine bDrewN ?_ _ | refine bDrew ?_ | refine bSet ?_ (by first | exact Nat.le_refl _ | omega | (simp; done) | (simp; omega)) _))).choose_spec, fP_more hno HF.out⟩
        case measure => simp [intOf]; omega
      · rw [he] at HF
        have HH := Lib.hid (fP_hit Hl.out hlt hno HF.out)
        go_wp2
        go_ret
        exact ⟨ret_int (by rw [clubV, HH.out, ← HP.out]; rfl), ext_ex (by repeat (first | exact Below.refl _ _ | assumption | refine bExt ?_ _ | refine bAlloc ?_ _ | refine bDrewN ?_ _ | refine bDrew ?_ | refine bSet ?_ (by first | exact Nat.le_refl _ | omega | (simp; done) | (simp; omega)) _))⟩
    · have HH := Lib.hid (fP_none Hl.out (fun j hj => hno j (by omega)))
      go_wp2
      go_ret
      exact ⟨ret_int (by rw [clubV, HH.out]; rfl), ext_ex (by repeat (first | exact Below.refl _ _ | assumption | refine bExt ?_ _ | refine bAlloc ?_ _ | refine bDrewN ?_ _ | refine bDrew ?_ | refine bSet ?_ (by first | exact Nat.le_refl _ | omega | (simp; done) | (simp; omega)) _))⟩
/-- How many of some officials each club has. -/
def szL (l : List T3) (L : List Int) : List Int := (List.range 21).map fun c => ((L.filter fun x => clubV l x == (c : Nat)).length : Int)
theorem szL_len (l : List T3) (L : List Int) : (szL l L).length = 21 := by simp [szL]
theorem szL_get (l : List T3) (L : List Int) (c : Nat) (hc : c < 21) : (szL l L)[c]?.getD 0 = ((L.filter fun x => clubV l x == (c : Nat)).length : Int) := by simp [szL, hc]
theorem szL_bd (l : List T3) (L : List Int) (c : Nat) : 0 ≤ (szL l L)[c]?.getD 0 ∧ (szL l L)[c]?.getD 0 ≤ L.length := by
  by_cases hc : c < 21
  · rw [szL_get l L c hc]
    have := List.length_filter_le (fun x => clubV l x == (c : Nat)) L
    omega
  · rw [List.getElem?_eq_none (by rw [szL_len]; omega)]; simp
theorem szL_step {l : List T3} {L : List Int} {x : Int} {c : Nat} (hc : clubV l x = c) (h21 : c < 21) : (szL l L).set c ((szL l L)[c]?.getD 0 + 1) = szL l (L ++ [x]) := by
  apply List.ext_getElem (by simp [szL])
  intro i h1 h2
  simp only [List.length_set, szL_len] at h1
  rw [List.getElem_set]
  have e2 : (szL l (L ++ [x]))[i]'h2 = ((L.filter fun y => clubV l y == (i : Nat)).length : Int) + (if clubV l x == (i : Nat) then 1 else 0) := by
    simp only [szL, List.getElem_map, List.getElem_range, List.filter_append, List.length_append]
    by_cases e : clubV l x == (i : Nat)
    · simp [e]
    · simp [e]
  rw [e2]
  by_cases e : c = i
  · subst e
    rw [if_pos rfl, szL_get l L c h21, hc]
    simp
  · rw [if_neg e, hc]
    have : ((c : Int) == (i : Nat)) = false := by simp; omega
    simp [this, szL]
theorem szL_nil (l : List T3) : szL l [] = List.replicate 21 0 := by simp [szL]; rfl
theorem take_step1 (L : List Int) (k : Nat) (h : k < L.length) : L.take (k + 1) = L.take k ++ [L[k]?.getD 0] := take_succ_getD 0 L k h
theorem ints_made21 : (madeCells (Value.int .i64 0).cells (21 * 1)).toList = (List.replicate 21 (0 : Int)).map (Value.int .i64) := ints_made 21
set_option maxHeartbeats 1000000 in
theorem clubSizes_any (w : World) (A : Option Addr) (n c : Nat) (l : List T3) (B : Option Addr) (m d : Nat) (L : List Int) (ha : Rd3 w A n l) (hb : RdI w B m L) (hn : n ≤ 1099511627776) (hm : m ≤ 1000000) (hof : offsB l = true) :
    Calls Try.prog 149 #[.slice A n c, .slice B m d] w (RetI w (szL l L)) := by
  obtain ⟨i0, hi0, hz0, hz1, hz2⟩ := info_parts int_info
  have Hl := Lib.hid hb.len
  go_enter Try.func149, Try.ntmps149
  go_wp2_with (at_make; refine wpList_make_full w rfl _ _ _ rfl w.heap.size 3 i0 _ 1 Try.underlying23 hi0 hz0 hz1 .i64 .i64 _ _ 21 rfl rfl rfl rfl (by rw [hz2]; omega) (by simp only [maxLen]; omega) (Nat.le_refl _) ?_; intro w1 hown1 hg1)
  have hb1 : Below w.heap.size w w1 := below_grown (Below.refl _ _) hg1 (by simp)
  rw [ints_made21] at hown1
  have o1 : OwI w.heap.size w1 (some ⟨w.heap.size, 0, none⟩) 21 21 (szL l (L.take 0)) := by rw [List.take_zero, szL_nil]; exact hown1
  clear hown1 hg1
  obtain ⟨x1, rfl⟩ := ext_ex hb1
  go_loopw [11] (fun i wr => ∃ (k : Nat) (x : World), k ≤ m ∧ i = .int .i64 k ∧ wr = ext w x ∧ OwI w.heap.size (ext w x) (some ⟨w.heap.size, 0, none⟩) 21 21 (szL l (L.take k))) (fun i _ => m - (intOf i).toNat)
  case atStart => exact ⟨0, x1, by omega, rfl, rfl, o1⟩
  case round =>
    obtain ⟨k, x, hk, rfl, rfl, ho⟩ := hrel
    by_cases hlt : k < m
    · obtain ⟨b, off, rfl, hb0, hc⟩ := hb.open_ (by omega)
      have hck := hc k hlt
      rw [List.getD_eq_getElem?_getD] at hck
      clear hc
      have HT := Lib.hid (take_step1 L k (by rw [Hl.out]; exact hlt))
      obtain ⟨q, hq⟩ : ∃ q, L[k]?.getD 0 = q := ⟨_, rfl⟩
      rw [hq] at hck
      unfold Hid at HT
      rw [hq] at HT
      replace HT := Lib.hid HT
      clear hq
      have hbd := clubV_bd hof q
      obtain ⟨cn, hcn⟩ : ∃ cn : Nat, clubV l q = cn := ⟨(clubV l q).toNat, by omega⟩
      rw [hcn] at hbd
      have hc21 : cn < 21 := by omega
      have HF := Lib.hid (szL_step (L := L.take k) hcn hc21)
      have hlk : (L.take k).length ≤ k := by rw [List.length_take]; omega
      have hsz := szL_bd l (L.take k) cn
      have cq := clubOf_any (ext w x) A n c l q (ha.below (ext_below _ _)) hn
      rw [hcn] at cq
      clear hcn
      have hcI : (cn : Int) < 21 := by omega
      go_wp2_with (first | (go_at_call 187; ((with_reducible refine (cq).mono ?_); rintro e w' ⟨rfl, y, rfl⟩; (have ho2 := ho.below (ext_below _ y)); (have hcc := ho2.cell_ cn hc21); (have hff := ho2.frozen_ cn))))
      have hst := ho2.stored_ cn ((szL l (L.take k))[cn]?.getD 0 + 1)
      rw [HF.out, ← HT.out] at hst
      have hbn : Below w.heap.size w ((ext (ext w x) y).setCell ⟨w.heap.size, cn, none⟩ (.int .i64 ((szL l (L.take k))[cn]?.getD 0 + 1))) := by repeat (first | exact Below.refl _ _ | assumption | refine bExt ?_ _ | refine bAlloc ?_ _ | refine bDrewN ?_ _ | refine bDrew ?_ | refine bSet ?_ (by first | exact Nat.le_refl _ | omega | (simp; done) | (simp; omega)) _)
      obtain ⟨z, hz⟩ := ext_ex hbn
      go_roundw
      case rel => exact ⟨k + 1, z, by omega, by go_num, hz, by rw [← hz]; exact hst.1⟩
      case measure => simp [intOf]; omega
    · rw [List.take_of_length_le (by rw [Hl.out]; omega)] at ho
      go_wp2
      go_ret
      exact RetI.mk_ ho (Nat.le_refl _) (by repeat (first | exact Below.refl _ _ | assumption | refine bExt ?_ _ | refine bAlloc ?_ _ | refine bDrewN ?_ _ | refine bDrew ?_ | refine bSet ?_ (by first | exact Nat.le_refl _ | omega | (simp; done) | (simp; omega)) _))
def minSum (S : List Int) (q : Int) (k : Nat) : Int := ((S.take k).map fun x => min x q).sum
theorem minSum_succ (S : List Int) (q : Int) (k : Nat) (h : k < S.length) : minSum S q (k + 1) = minSum S q k + min (S[k]?.getD 0) q := by
  unfold minSum; rw [take_succ_getD 0 S k h]; simp
theorem minSum_bd {S : List Int} {q : Int} {B : Nat} (hq : 0 ≤ q) (hb : ∀ j : Nat, 0 ≤ S[j]?.getD 0 ∧ S[j]?.getD 0 ≤ B) (k : Nat) (hk : k ≤ S.length) : 0 ≤ minSum S q k ∧ minSum S q k ≤ B * k := by
  induction k with
  | zero => simp [minSum]
  | succ k ih =>
    have h1 := ih (by omega)
    have h2 := hb k
    rw [minSum_succ S q k (by omega)]
    have e : (B : Int) * ((k + 1 : Nat) : Int) = B * k + B := by push_cast; rw [Int.mul_add, Int.mul_one]
    rw [e]; omega
def laV (l : List T3) (cl : List Int) (v q : Int) : Int := if canB l cl v q then minSum (szL l (eligL l cl v)) q 21 else 0
theorem canB_of {l : List T3} {cl : List Int} {v q : Int} (h : canB l cl v q = true) : askB l cl v = true ∧ (1 ≤ q ∧ q ≤ 9) := by
  simp only [canB, Bool.and_eq_true] at h; exact ⟨h.1, inB_iff.1 h.2⟩
theorem elig_mem {l : List T3} {cl : List Int} {v x : Int} (h : x ∈ eligL l cl v) : (fI l x).2 = true := by
  have h1 := (sortI_perm _).mem_iff.1 h
  simp only [elN, List.mem_map, List.mem_filter] at h1
  obtain ⟨p, ⟨hp, _⟩, e⟩ := h1
  exact fI_has (List.mem_map.2 ⟨p, hp, e⟩)
theorem ret_intB0 {a b : Int} {k : Bool} (h : a = b) : Ending.returned (.tuple #[.int .i64 a, .bool k]) = .returned (.tuple #[.int .i64 b, .bool k]) := by rw [h]
end Go.Proofs.Ytppcmnolkbobfaa
