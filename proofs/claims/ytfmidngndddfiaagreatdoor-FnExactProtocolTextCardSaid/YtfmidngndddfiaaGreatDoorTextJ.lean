/- Contracts: joined words, items as text, points in a row. Conditions: valid items; the tables that Itoa reads and that holds the signs of marks. -/
import Derived.Test.YtfmidngndddfiaaGreatDoorTexts
import Derived.Test.YtfmidngndddfiaaGreatDoorBaseQ
import Derived.Test.YtfmidngndddfiaaGreatDoorPushS
import Derived.Lib.Join
import Derived.BigQuiet
import Derived.Deep.RegionLaw
set_option linter.unusedVariables false
set_option linter.unusedSimpArgs false
set_option maxRecDepth 100000
namespace Go.Proofs.YtfmidngndddfiaaGreatDoor
open Go.RowKit
/-- The first k words with sep between them. -/
def joinTo (sep : ByteArray) (f : Nat → ByteArray) : Nat → ByteArray
  | 0 => ByteArray.empty
  | k + 1 => (if 0 < k then joinTo sep f k ++ sep else joinTo sep f k) ++ f k
def wordsF (f : Nat → ByteArray) (k : Nat) : List ByteArray := (List.range k).map f
theorem wordsF_succ (f : Nat → ByteArray) (k : Nat) : wordsF f (k + 1) = wordsF f k ++ [f k] := by simp [wordsF, List.range_succ]
theorem wordsF_len (f : Nat → ByteArray) (k : Nat) : (wordsF f k).length = k := by simp [wordsF]
theorem joinTail_snoc' (sep : List UInt8) (r : List (List UInt8)) (x : List UInt8) : Lib.joinTail sep (r ++ [x]) = Lib.joinTail sep r ++ (sep ++ x) := by simp [Lib.joinTail]
theorem joinTo_list (sep : ByteArray) (f : Nat → ByteArray) : ∀ k, (joinTo sep f (k + 1)).data.toList = Lib.join ((wordsF f (k + 1)).map (·.data.toList)) sep.data.toList
  | 0 => by simp [joinTo, wordsF, Lib.join_one]
  | k + 1 => by
    have ih := joinTo_list sep f k
    have e : (wordsF f (k + 1)).map (·.data.toList) = (f 0).data.toList :: ((List.range k).map fun i => (f (i + 1)).data.toList) := by
      simp [wordsF, List.range_succ_eq_map]
    have e2 : (wordsF f (k + 1 + 1)).map (·.data.toList) = (f 0).data.toList :: (((List.range k).map fun i => (f (i + 1)).data.toList) ++ [(f (k + 1)).data.toList]) := by
      rw [wordsF_succ, List.map_append, e]; rfl
    rw [joinTo, if_pos (by omega), e2, Lib.join_cons, joinTail_snoc', ByteArray.data_append, Array.toList_append, ByteArray.data_append, Array.toList_append, ih, e, Lib.join_cons]
    simp only [List.append_assoc]
theorem joinTo_join (sep : ByteArray) (f : Nat → ByteArray) (k : Nat) : (⟨(Lib.join ((wordsF f (k + 1)).map (·.data.toList)) sep.data.toList).toArray⟩ : ByteArray) = joinTo sep f (k + 1) := by
  rw [← joinTo_list]
theorem joinTo_size {sep : ByteArray} {f : Nat → ByteArray} {s b : Nat} (hs : sep.size ≤ s) : ∀ k, (∀ j, j < k → (f j).size ≤ b) → (joinTo sep f k).size ≤ (b + s) * k
  | 0, _ => by simp [joinTo]
  | k + 1, h => by
    have ih := joinTo_size hs k (fun j hj => h j (by omega))
    have h2 := h k (by omega)
    have e : (b + s) * (k + 1) = (b + s) * k + (b + s) := Nat.mul_succ _ _
    rw [joinTo, ByteArray.size_append, e]
    split
    · rw [ByteArray.size_append]; omega
    · omega
theorem joinTo_1 (sep : ByteArray) (f : Nat → ByteArray) : joinTo sep f 1 = f 0 := by simp [joinTo]
/-- strings.Join over words in a slice. -/
theorem joinW_any (W : World) (base : Nat) (A : Option Addr) (n c : Nat) (f : Nat → ByteArray) (sep : ByteArray) (ho : OwT base W A n c (wordsF f n)) (h0 : 0 < n) (hz : (joinTo sep f n).size ≤ 1000000) (hn : n ≤ 1000000) :
    Calls Tryz.prog 98 #[.slice A n c, .string sep] W fun e w' => e = .returned (.string (joinTo sep f n)) ∧ ∃ x, w' = ext W x := by
  obtain ⟨g, rfl, hg1, hg2⟩ := ho.form_ h0
  obtain ⟨k, rfl⟩ : ∃ k, n = k + 1 := ⟨n - 1, by omega⟩
  have hsz : (Lib.join ((wordsF f (k + 1)).map (·.data.toList)) sep.data.toList).length ≤ 140737488355328 := by
    rw [← joinTo_list]
    have e : (joinTo sep f (k + 1)).data.toList.length = (joinTo sep f (k + 1)).size := by simp only [ByteArray.size, Array.length_toList]
    omega
  have hcl : ∀ (j : Nat) x, (wordsF f (k + 1))[j]? = some x → W.cell? ⟨g, 0 + j, none⟩ = some (.string x) := fun j x hx => by
    have hj := (List.getElem?_eq_some_iff.1 hx).1
    rw [wordsF_len] at hj
    have := ho.cell_ j hj
    rw [hx, Option.getD_some] at this
    rw [Nat.zero_add]
    exact this
  have hj := Tryz.strings_Join g 0 c (wordsF f (k + 1)) sep W hcl hg2 (by rw [wordsF_len]; omega) (by rw [wordsF_len]; exact ho.cap_.1) hsz
  rw [wordsF_len, joinTo_join] at hj
  exact hj.mono fun e w' h => ⟨h.1, ext_ex h.2⟩
/-- The sign of a mark. -/
def signS (m : Int) : ByteArray := if m = 1 then ⟨#[60]⟩ else if m = 2 then ⟨#[101]⟩ else if m = 3 then ⟨#[42]⟩ else ⟨#[]⟩
theorem signS_size (m : Int) : (signS m).size ≤ 1 := by
  unfold signS
  split
  · exact Nat.le_refl 1
  · split
    · exact Nat.le_refl 1
    · split
      · exact Nat.le_refl 1
      · exact Nat.zero_le 1
def wordS (it : It) (k : Nat) : ByteArray := nmAt it k ++ signS (mkAt it k)
/-- An item as text. -/
def itemS (it : It) : ByteArray := if it.2.2 then joinTo ⟨#[43]⟩ (wordS it) it.1.length ++ ⟨#[32, 120]⟩ else joinTo ⟨#[43]⟩ (wordS it) it.1.length
/-- Short names, marks that are marks. -/
def ItT (it : It) : Prop := ∀ j, j < it.1.length → (nmAt it j).size ≤ 5 ∧ 0 ≤ mkAt it j ∧ mkAt it j ≤ 3
theorem wordS_size {it : It} (h : ItT it) (j : Nat) (hj : j < it.1.length) : (wordS it j).size ≤ 6 := by
  have := (h j hj).1
  have := signS_size (mkAt it j)
  unfold wordS
  rw [ByteArray.size_append]; omega
theorem joinS_size {it : It} (h : ItT it) (h3 : it.1.length ≤ 3) (k : Nat) (hk : k ≤ it.1.length) : (joinTo ⟨#[43]⟩ (wordS it) k).size ≤ 21 := by
  have := joinTo_size (sep := ⟨#[43]⟩) (f := wordS it) (s := 1) (b := 6) (Nat.le_refl 1) k (fun j hj => wordS_size h j (by omega))
  omega
theorem itemS_size {it : It} (h : ItT it) (h3 : it.1.length ≤ 3) : (itemS it).size ≤ 23 := by
  have := joinS_size h h3 it.1.length (Nat.le_refl _)
  unfold itemS
  split
  · rw [ByteArray.size_append]; have : ByteArray.size ⟨#[32, 120]⟩ = 2 := rfl
    omega
  · omega
def signsL : List ByteArray := [⟨#[]⟩, ⟨#[60]⟩, ⟨#[101]⟩, ⟨#[42]⟩]
theorem signsL_at (m : Int) (h0 : 0 ≤ m) (h3 : m ≤ 3) : signsL[m.toNat]?.getD ByteArray.empty = signS m := by
  rcases (by omega : m = 0 ∨ m = 1 ∨ m = 2 ∨ m = 3) with rfl | rfl | rfl | rfl <;> rfl
/-- The table of the signs of marks lies as its initialiser lays it. -/
def Sgn (w : World) : Prop := 0 < w.heap.size ∧ ∀ j : Nat, j < 4 → w.cell? ⟨0, j, none⟩ = some (.string (signsL[j]?.getD ByteArray.empty))
theorem Sgn.below {w w' : World} (h : Sgn w) (hb : Below w.heap.size w w') : Sgn w' := ⟨Nat.lt_of_lt_of_le h.1 hb.size, fun j hj => (hb.cell (p := ⟨0, j, none⟩) h.1).trans (h.2 j hj)⟩
theorem itSigns_any (w : World) : Calls Tryz.prog 86 #[] w (RetT w signsL) := by
  go_enter Tryz.func86, Tryz.ntmps86
  go_wp2
  go_ret
  exact RetT.mk_ (OwT.lit_ (Below.refl w.heap.size w) signsL (by simp [signsL, maxLen]) _ rfl) (Nat.le_refl _) (by repeat (first | exact Below.refl _ _ | assumption | refine bExt ?_ _ | refine bAlloc ?_ _ | refine bDrewN ?_ _ | refine bDrew ?_ | refine bSet ?_ (by first | exact Nat.le_refl _ | omega | (simp; done) | (simp; omega)) _))
set_option maxHeartbeats 2000000 in
theorem itText_any (w : World) (NA MA : Option Addr) (nn nc mn mc : Nat) (it : It) (hN : RdT w NA nn it.1) (hM : RdI w MA mn it.2.1) (h1 : 1 ≤ nn) (h3 : nn ≤ 3) (hl : it.2.1.length = it.1.length) (hT : ItT it) :
    Calls Tryz.prog 55 #[.agg #[.slice NA nn nc, .slice MA mn mc, .bool it.2.2]] w fun e w' => e = .returned (.string (itemS it)) ∧ ∃ y, w' = ext w y := by
  have Hn := Lib.hid hN.len
  have Hm := Lib.hid hM.len
  rw [Hn.out] at hl
  rw [Hm.out] at hl
  obtain rfl := hl.symm
  have hz := joinS_size hT (by rw [Hn.out]; exact h3)
  rw [Hn.out] at hz
  have hTk : ∀ j, j < nn → (nmAt it j).size ≤ 5 ∧ 0 ≤ mkAt it j ∧ mkAt it j ≤ 3 := fun j hj => hT j (by rw [Hn.out]; exact hj)
  have HV : Hid (itemS it = if it.2.2 then joinTo ⟨#[43]⟩ (wordS it) nn ++ ⟨#[32, 120]⟩ else joinTo ⟨#[43]⟩ (wordS it) nn) := by unfold Hid itemS; rw [Hn.out]
  obtain ⟨late, hlate⟩ : ∃ l, it.2.2 = l := ⟨_, rfl⟩
  rw [hlate] at HV ⊢
  clear hlate hT
  go_enter Tryz.func55, Tryz.ntmps55
  go_wp2
  go_loopw [3, 4, 5, 9] (fun t _ _ i wr => ∃ (k : Nat) (y : World), k ≤ nn ∧ i = .int .i64 k ∧ t = .string (joinTo ⟨#[43]⟩ (wordS it) k) ∧ wr = ext (w.alloc (.cells #[.slice NA nn nc, .slice MA nn mc, .bool late] 87)) y) (fun _ _ _ i _ => nn - (intOf i).toNat)
  case atStart => exact ⟨0, _, by omega, rfl, rfl, ext_self _⟩
  case round =>
    obtain ⟨k, y, hk, rfl, rfl, rfl⟩ := hrel
    by_cases hlt : k < nn
    · obtain ⟨bn, on, rfl, hbn, hcn⟩ := hN.open_ (by omega)
      obtain ⟨bm, om, rfl, hbm, hcm⟩ := hM.open_ (by omega)
      have hcnk : w.cell? ⟨bn, on + k, none⟩ = some (.string (nmAt it k)) := hcn k hlt
      have hcmk : w.cell? ⟨bm, om + k, none⟩ = some (.int .i64 (mkAt it k)) := by have := hcm k (by omega); rwa [List.getD_eq_getElem?_getD] at this
      obtain ⟨hs5, hm0, hm3⟩ := hTk k hlt
      have hsg := signsL_at (mkAt it k) hm0 hm3
      obtain ⟨m, hm⟩ : ∃ m : Nat, mkAt it k = m := ⟨(mkAt it k).toNat, by omega⟩
      have hwk : Hid (wordS it k = nmAt it k ++ signS m) := by unfold Hid wordS; rw [hm]
      rw [hm] at hcmk hsg hm3
      rw [Int.toNat_natCast] at hsg
      have hm4 : m < 4 := by omega
      have hm4I : (m : Int) < 4 := by omega
      have HJ : Hid (joinTo ⟨#[43]⟩ (wordS it) (k + 1) = (if 0 < k then joinTo ⟨#[43]⟩ (wordS it) k ++ ⟨#[43]⟩ else joinTo ⟨#[43]⟩ (wordS it) k) ++ (nmAt it k ++ signS m)) := by unfold Hid; rw [joinTo, hwk.out]
      have hz1 := hz k hk
      have hgz := signS_size m
      clear hcn hcm hTk hz hm hm0 hm3
      generalize joinTo ⟨#[43]⟩ (wordS it) k = s at *
      generalize nmAt it k = nm at *
      generalize signS (m : Int) = sg at *
      have zp : ByteArray.size ⟨#[43]⟩ = 1 := rfl
      have f1 : Fit (s ++ (⟨#[43]⟩ : ByteArray)) := by unfold Fit; simp only [ByteArray.size_append]; omega
      have f2 : Fit (nm ++ sg) := by unfold Fit; simp only [ByteArray.size_append]; omega
      have f3 : Fit (s ++ (nm ++ sg)) := by unfold Fit; simp only [ByteArray.size_append]; omega
      have f4 : Fit (s ++ (⟨#[43]⟩ : ByteArray) ++ (nm ++ sg)) := by unfold Fit; simp only [ByteArray.size_append]; omega
      clear zp hz1 hgz hs5
      have hR : (w.alloc (.cells #[.slice (some ⟨bn, on, none⟩) nn nc, .slice (some ⟨bm, om, none⟩) nn mc, .bool late] 87)).cell? ⟨w.heap.size, 0, none⟩ = some (.slice (some ⟨bn, on, none⟩) nn nc) ∧ (w.alloc (.cells #[.slice (some ⟨bn, on, none⟩) nn nc, .slice (some ⟨bm, om, none⟩) nn mc, .bool late] 87)).cell? ⟨w.heap.size, 1, none⟩ = some (.slice (some ⟨bm, om, none⟩) nn mc) ∧ (w.alloc (.cells #[.slice (some ⟨bn, on, none⟩) nn nc, .slice (some ⟨bm, om, none⟩) nn mc, .bool late] 87)).cell? ⟨w.heap.size, 2, none⟩ = some (.bool late) ∧ (w.alloc (.cells #[.slice (some ⟨bn, on, none⟩) nn nc, .slice (some ⟨bm, om, none⟩) nn mc, .bool late] 87)).cell? ⟨bm, om + k, none⟩ = some (.int .i64 (m : Nat)) := by refine ⟨?_, ?_, ?_, ?_⟩ <;> first | assumption | simp [*, go_sem]
      have hS := fun (W : World) (h : Below (w.alloc (.cells #[.slice (some ⟨bn, on, none⟩) nn nc, .slice (some ⟨bm, om, none⟩) nn mc, .bool late] 87)).heap.size (w.alloc (.cells #[.slice (some ⟨bn, on, none⟩) nn nc, .slice (some ⟨bm, om, none⟩) nn mc, .bool late] 87)) W) => (⟨(h.cell (p := ⟨w.heap.size, 0, none⟩) (by first | assumption | (simp [go_sem]; done) | (simp [go_sem]; omega))).trans hR.1, (h.cell (p := ⟨w.heap.size, 1, none⟩) (by first | assumption | (simp [go_sem]; done) | (simp [go_sem]; omega))).trans hR.2.1, (h.cell (p := ⟨w.heap.size, 2, none⟩) (by first | assumption | (simp [go_sem]; done) | (simp [go_sem]; omega))).trans hR.2.2.1, (h.cell (p := ⟨bm, om + k, none⟩) (by first | assumption | (simp [go_sem]; done) | (simp [go_sem]; omega))).trans hR.2.2.2⟩ : W.cell? ⟨w.heap.size, 0, none⟩ = some (.slice (some ⟨bn, on, none⟩) nn nc) ∧ W.cell? ⟨w.heap.size, 1, none⟩ = some (.slice (some ⟨bm, om, none⟩) nn mc) ∧ W.cell? ⟨w.heap.size, 2, none⟩ = some (.bool late) ∧ W.cell? ⟨bm, om + k, none⟩ = some (.int .i64 (m : Nat)))
      clear hR
      have fn1 := ((by repeat (first | exact Below.refl _ _ | assumption | refine bExt ?_ _ | refine bAlloc ?_ _ | refine bDrewN ?_ _ | refine bDrew ?_ | refine bSet ?_ (by first | exact Nat.le_refl _ | omega | (simp; done) | (simp; omega)) _) : Below w.heap.size w (ext (w.alloc (.cells #[.slice (some ⟨bn, on, none⟩) nn nc, .slice (some ⟨bm, om, none⟩) nn mc, .bool late] 87)) y)).cell (p := ⟨bn, on + k, none⟩) hbn).trans hcnk
      by_cases hk0 : 0 < k
      · have hk0I : (0 : Int) < k := by omega
        go_wp2
        go_region_law (first | (go_simp; go_at_call 86; (with_reducible refine (itSigns_any _).mono ?_); rintro e w' ⟨A1, n1, c1, x1, rfl, rfl, o1⟩; obtain rfl : n1 = 4 := o1.len.symm; obtain ⟨g1, rfl, hg1, hg2⟩ := o1.form_ (by omega); have k1 := o1.cell_ m (by omega); rw [hsg] at k1))
        all_goals
          go_wp2
          go_roundw
          case rel => exact ⟨k + 1, _, by omega, by go_num, by rw [HJ.out, if_pos hk0], (ext_ex (by repeat (first | exact Below.refl _ _ | assumption | refine bExt ?_ _ | refine bAlloc ?_ _ | refine bDrewN ?_ _ | refine bDrew ?_ | refine bSet ?_ (by first | exact Nat.le_refl _ | omega | (simp; done) | (simp; omega)) _))).choose_spec⟩
          case measure => simp [intOf]; omega
      · have hk0I : ¬ (0 : Int) < k := by omega
        go_wp2
        go_region_law (first | (go_simp; go_at_call 86; (with_reducible refine (itSigns_any _).mono ?_); rintro e w' ⟨A1, n1, c1, x1, rfl, rfl, o1⟩; obtain rfl : n1 = 4 := o1.len.symm; obtain ⟨g1, rfl, hg1, hg2⟩ := o1.form_ (by omega); have k1 := o1.cell_ m (by omega); rw [hsg] at k1))
        all_goals
          go_wp2
          go_roundw
          case rel => exact ⟨k + 1, _, by omega, by go_num, by rw [HJ.out, if_neg hk0], (ext_ex (by repeat (first | exact Below.refl _ _ | assumption | refine bExt ?_ _ | refine bAlloc ?_ _ | refine bDrewN ?_ _ | refine bDrew ?_ | refine bSet ?_ (by first | exact Nat.le_refl _ | omega | (simp; done) | (simp; omega)) _))).choose_spec⟩
          case measure => simp [intOf]; omega
    · obtain rfl : k = nn := by omega
      have hz1 := hz k hk
      clear hz hTk
      generalize joinTo ⟨#[43]⟩ (wordS it) k = s at *
      have f1 : Fit (s ++ (⟨#[32, 120]⟩ : ByteArray)) := by unfold Fit; simp only [ByteArray.size_append]; have : ByteArray.size ⟨#[32, 120]⟩ = 2 := rfl; omega
      cases late
      · go_wp2
        go_ret
        exact ⟨ret_str (by rw [HV.out]; rfl), ext_ex (by repeat (first | exact Below.refl _ _ | assumption | refine bExt ?_ _ | refine bAlloc ?_ _ | refine bDrewN ?_ _ | refine bDrew ?_ | refine bSet ?_ (by first | exact Nat.le_refl _ | omega | (simp; done) | (simp; omega)) _))⟩
      · go_wp2
        go_ret
        exact ⟨ret_str (by rw [HV.out]; rfl), ext_ex (by repeat (first | exact Below.refl _ _ | assumption | refine bExt ?_ _ | refine bAlloc ?_ _ | refine bDrewN ?_ _ | refine bDrew ?_ | refine bSet ?_ (by first | exact Nat.le_refl _ | omega | (simp; done) | (simp; omega)) _))⟩
set_option maxHeartbeats 2000000 in
theorem itemText_any (w : World) (NA MA : Option Addr) (nn nc mn mc : Nat) (it : It) (hN : RdT w NA nn it.1) (hM : RdI w MA mn it.2.1) (h1 : 1 ≤ nn) (h3 : nn ≤ 3) (hl : it.2.1.length = it.1.length) (hT : ItT it) (hG : Sgn w) :
    Calls Tryz.prog 65 #[.agg #[.slice NA nn nc, .slice MA mn mc, .bool it.2.2]] w fun e w' => e = .returned (.string (itemS it)) ∧ ∃ y, w' = ext w y := by
  have Hn := Lib.hid hN.len
  have Hm := Lib.hid hM.len
  rw [Hn.out] at hl
  rw [Hm.out] at hl
  obtain rfl := hl.symm
  have hz := joinS_size hT (by rw [Hn.out]; exact h3)
  rw [Hn.out] at hz
  have hTk : ∀ j, j < nn → (nmAt it j).size ≤ 5 ∧ 0 ≤ mkAt it j ∧ mkAt it j ≤ 3 := fun j hj => hT j (by rw [Hn.out]; exact hj)
  have HV : Hid (itemS it = if it.2.2 then joinTo ⟨#[43]⟩ (wordS it) nn ++ ⟨#[32, 120]⟩ else joinTo ⟨#[43]⟩ (wordS it) nn) := by unfold Hid itemS; rw [Hn.out]
  obtain ⟨late, hlate⟩ : ∃ l, it.2.2 = l := ⟨_, rfl⟩
  rw [hlate] at HV ⊢
  clear hlate hT
  go_enter Tryz.func65, Tryz.ntmps65
  go_wp2
  go_loopw [3, 4, 5, 11] (fun t _ _ i wr => ∃ (k : Nat) (D : Option Addr) (dc : Nat) (y : World), k ≤ nn ∧ i = .int .i64 k ∧ t = .slice D k dc ∧ wr = ext (w.alloc (.cells #[.slice NA nn nc, .slice MA nn mc, .bool late] 87)) y ∧ OwT (w.alloc (.cells #[.slice NA nn nc, .slice MA nn mc, .bool late] 87)).heap.size (ext (w.alloc (.cells #[.slice NA nn nc, .slice MA nn mc, .bool late] 87)) y) D k dc (wordsF (wordS it) k)) (fun _ _ _ i _ => nn - (intOf i).toNat)
  case atStart =>
    obtain ⟨y, hy⟩ := ext_ex (show Below (w.alloc (.cells #[.slice NA nn nc, .slice MA nn mc, .bool late] 87)).heap.size (w.alloc (.cells #[.slice NA nn nc, .slice MA nn mc, .bool late] 87)) ((w.alloc (.cells #[.slice NA nn nc, .slice MA nn mc, .bool late] 87)).alloc (.cells #[] 9)) from by repeat (first | exact Below.refl _ _ | assumption | refine bExt ?_ _ | refine bAlloc ?_ _ | refine bDrewN ?_ _ | refine bDrew ?_ | refine bSet ?_ (by first | exact Nat.le_refl _ | omega | (simp; done) | (simp; omega)) _))
    have o0 := OwT.lit_ (Below.refl _ (w.alloc (.cells #[.slice NA nn nc, .slice MA nn mc, .bool late] 87))) [] (by simp [maxLen]) #[] rfl
    rw [hy] at o0
    exact ⟨0, _, 0, y, by omega, rfl, rfl, hy, by simpa [go_sem, wordsF] using o0⟩
  case round =>
    obtain ⟨k, D, dc, y, hk, rfl, rfl, rfl, ho⟩ := hrel
    by_cases hlt : k < nn
    · obtain ⟨bn, on, rfl, hbn, hcn⟩ := hN.open_ (by omega)
      obtain ⟨bm, om, rfl, hbm, hcm⟩ := hM.open_ (by omega)
      have hcnk : w.cell? ⟨bn, on + k, none⟩ = some (.string (nmAt it k)) := hcn k hlt
      have hcmk : w.cell? ⟨bm, om + k, none⟩ = some (.int .i64 (mkAt it k)) := by have := hcm k (by omega); rwa [List.getD_eq_getElem?_getD] at this
      obtain ⟨hs5, hm0, hm3⟩ := hTk k hlt
      have hsg := signsL_at (mkAt it k) hm0 hm3
      obtain ⟨m, hm⟩ : ∃ m : Nat, mkAt it k = m := ⟨(mkAt it k).toNat, by omega⟩
      have hwk : Hid (wordS it k = nmAt it k ++ signS m) := by unfold Hid wordS; rw [hm]
      rw [hm] at hcmk hsg hm3
      rw [Int.toNat_natCast] at hsg
      have hm4 : m < 4 := by omega
      have hm4I : (m : Int) < 4 := by omega
      have HW := Lib.hid (wordsF_succ (wordS it) k)
      have HW : Hid (wordsF (wordS it) (k + 1) = wordsF (wordS it) k ++ [nmAt it k ++ signS m]) := by unfold Hid; rw [HW.out, hwk.out]
      have hgz := signS_size m
      have hkb : k ≤ 1099511627776 := by omega
      have hgm := hG.2 m hm4
      rw [hsg] at hgm
      have hgl := hG.1
      clear hcn hcm hTk hz hm hm0 hm3 hG hsg hwk
      generalize wordsF (wordS it) k = ws at *
      generalize nmAt it k = nm at *
      generalize signS (m : Int) = sg at *
      have f2 : Fit (nm ++ sg) := by unfold Fit; simp only [ByteArray.size_append]; omega
      clear hgz hs5
      have fn1 := ((by repeat (first | exact Below.refl _ _ | assumption | refine bExt ?_ _ | refine bAlloc ?_ _ | refine bDrewN ?_ _ | refine bDrew ?_ | refine bSet ?_ (by first | exact Nat.le_refl _ | omega | (simp; done) | (simp; omega)) _) : Below w.heap.size w (ext (w.alloc (.cells #[.slice (some ⟨bn, on, none⟩) nn nc, .slice (some ⟨bm, om, none⟩) nn mc, .bool late] 87)) y)).cell (p := ⟨bn, on + k, none⟩) hbn).trans hcnk
      have fm1 := ((by repeat (first | exact Below.refl _ _ | assumption | refine bExt ?_ _ | refine bAlloc ?_ _ | refine bDrewN ?_ _ | refine bDrew ?_ | refine bSet ?_ (by first | exact Nat.le_refl _ | omega | (simp; done) | (simp; omega)) _) : Below w.heap.size w (ext (w.alloc (.cells #[.slice (some ⟨bn, on, none⟩) nn nc, .slice (some ⟨bm, om, none⟩) nn mc, .bool late] 87)) y)).cell (p := ⟨bm, om + k, none⟩) hbm).trans hcmk
      have fg1 := ((by repeat (first | exact Below.refl _ _ | assumption | refine bExt ?_ _ | refine bAlloc ?_ _ | refine bDrewN ?_ _ | refine bDrew ?_ | refine bSet ?_ (by first | exact Nat.le_refl _ | omega | (simp; done) | (simp; omega)) _) : Below w.heap.size w (ext (w.alloc (.cells #[.slice (some ⟨bn, on, none⟩) nn nc, .slice (some ⟨bm, om, none⟩) nn mc, .bool late] 87)) y)).cell (p := ⟨0, m, none⟩) hgl).trans hgm
      go_wp2_with ((at_builtin; (refine wpl_push_strJ (w.alloc (.cells #[.slice (some ⟨bn, on, none⟩) nn nc, .slice (some ⟨bm, om, none⟩) nn mc, .bool late] 87)) _ _ _ ?_ rfl _ _ rfl D k dc _ rfl ho ?_ ?_ rfl hkb ?_); (focus (first | rfl | (simp; done))); (focus (repeat (first | exact Below.refl _ _ | assumption | refine bExt ?_ _ | refine bAlloc ?_ _ | refine bDrewN ?_ _ | refine bDrew ?_ | refine bSet ?_ (by first | exact Nat.le_refl _ | omega | (simp; done) | (simp; omega)) _))); (focus (repeat (first | exact Below.refl _ _ | assumption | refine bExt ?_ _ | refine bAlloc ?_ _ | refine bDrewN ?_ _ | refine bDrew ?_ | refine bSet ?_ (by first | exact Nat.le_refl _ | omega | (simp; done) | (simp; omega)) _))); intro D' c' y' ho' hg hd))
      go_roundw
      case rel => exact ⟨k + 1, D', c', y', by omega, by go_num, rfl, rfl, by rw [HW.out]; exact ho'⟩
      case measure => simp [intOf]; omega
    · obtain rfl : k = nn := by omega
      have hz1 := hz k hk
      have hj := fun W (h : Below (ext (w.alloc (.cells #[.slice NA k nc, .slice MA k mc, .bool late] 87)) y).heap.size (ext (w.alloc (.cells #[.slice NA k nc, .slice MA k mc, .bool late] 87)) y) W) => joinW_any W _ D k dc (wordS it) ⟨#[43]⟩ (ho.below h) (by omega) (by omega) (by omega)
      clear hz hTk
      generalize joinTo ⟨#[43]⟩ (wordS it) k = s at *
      have f1 : Fit (s ++ (⟨#[32, 120]⟩ : ByteArray)) := by unfold Fit; simp only [ByteArray.size_append]; have : ByteArray.size ⟨#[32, 120]⟩ = 2 := rfl; omega
      cases late
      · go_wp2_with ((go_at_call 98; ((with_reducible refine (hj _ (by repeat (first | exact Below.refl _ _ | assumption | refine bExt ?_ _ | refine bAlloc ?_ _ | refine bDrewN ?_ _ | refine bDrew ?_ | refine bSet ?_ (by first | exact Nat.le_refl _ | omega | (simp; done) | (simp; omega)) _))).mono ?_); rintro e w' ⟨rfl, x, rfl⟩)))
        go_ret
        exact ⟨ret_str (by rw [HV.out]; rfl), ext_ex (by repeat (first | exact Below.refl _ _ | assumption | refine bExt ?_ _ | refine bAlloc ?_ _ | refine bDrewN ?_ _ | refine bDrew ?_ | refine bSet ?_ (by first | exact Nat.le_refl _ | omega | (simp; done) | (simp; omega)) _))⟩
      · go_wp2_with ((go_at_call 98; ((with_reducible refine (hj _ (by repeat (first | exact Below.refl _ _ | assumption | refine bExt ?_ _ | refine bAlloc ?_ _ | refine bDrewN ?_ _ | refine bDrew ?_ | refine bSet ?_ (by first | exact Nat.le_refl _ | omega | (simp; done) | (simp; omega)) _))).mono ?_); rintro e w' ⟨rfl, x, rfl⟩)))
        go_ret
        exact ⟨ret_str (by rw [HV.out]; rfl), ext_ex (by repeat (first | exact Below.refl _ _ | assumption | refine bExt ?_ _ | refine bAlloc ?_ _ | refine bDrewN ?_ _ | refine bDrew ?_ | refine bSet ?_ (by first | exact Nat.le_refl _ | omega | (simp; done) | (simp; omega)) _))⟩
/-- A row of points. -/
def ptF (l : List Int) (k : Nat) : ByteArray := poS (l[k]?.getD 0)
def ptsS (l : List Int) : ByteArray := joinTo ⟨#[32]⟩ (ptF l) l.length
theorem ptsS_size {l : List Int} (hl : ∀ x ∈ l, -1000000000 ≤ x ∧ x ≤ 1000000000) (k : Nat) (hk : k ≤ l.length) : (joinTo ⟨#[32]⟩ (ptF l) k).size ≤ 14 * k := by
  have := joinTo_size (sep := ⟨#[32]⟩) (f := ptF l) (s := 1) (b := 13) (Nat.le_refl 1) k (fun j hj => by
    have := hl _ (getD_mem 0 l j (by omega))
    exact poS_size this.1 this.2)
  exact this
set_option maxHeartbeats 2000000 in
theorem pointsWords_any (w : World) (A : Option Addr) (n c : Nat) (l : List Int) (ha : RdI w A n l) (h0 : 0 < n) (hn : n ≤ 100) (hl : ∀ x ∈ l, -1000000000 ≤ x ∧ x ≤ 1000000000) (hT : Tab w) :
    Calls Tryz.prog 64 #[.slice A n c] w fun e w' => e = .returned (.string (ptsS l)) ∧ ∃ y, w' = ext w y := by
  have Hl := Lib.hid ha.len
  have hz := ptsS_size hl l.length (Nat.le_refl _)
  rw [Hl.out] at hz
  have HV : Hid (ptsS l = joinTo ⟨#[32]⟩ (ptF l) n) := by unfold Hid ptsS; rw [Hl.out]
  go_enter Tryz.func64, Tryz.ntmps64
  go_wp2
  go_loopw [3, 5, 9] (fun t _ i wr => ∃ (k : Nat) (D : Option Addr) (dc : Nat) (y : World), k ≤ n ∧ i = .int .i64 k ∧ t = .slice D k dc ∧ wr = ext w y ∧ OwT w.heap.size (ext w y) D k dc (wordsF (ptF l) k)) (fun _ _ i _ => n - (intOf i).toNat)
  case atStart =>
    obtain ⟨y, hy⟩ := ext_ex (bAlloc (Below.refl w.heap.size w) (.cells #[] 9))
    have o0 := OwT.lit_ (Below.refl w.heap.size w) [] (by simp [maxLen]) #[] rfl
    rw [hy] at o0
    exact ⟨0, _, 0, y, by omega, rfl, rfl, hy, by simpa [wordsF] using o0⟩
  case round =>
    obtain ⟨k, D, dc, y, hk, rfl, rfl, rfl, ho⟩ := hrel
    by_cases hlt : k < n
    · obtain ⟨b, off, rfl, hb, hc⟩ := ha.open_ (by omega)
      have hck := hc k hlt
      rw [List.getD_eq_getElem?_getD] at hck
      have hv := hl _ (getD_mem 0 l k (by rw [Hl.out]; exact hlt))
      have HW : Hid (wordsF (ptF l) (k + 1) = wordsF (ptF l) k ++ [poS (l[k]?.getD 0)]) := wordsF_succ (ptF l) k
      have hkb : k ≤ 1099511627776 := by omega
      clear hc hz
      generalize l[k]?.getD 0 = v at *
      generalize wordsF (ptF l) k = ws at *
      have cp := fun W (h : Below w.heap.size w W) => pointsText_any v W hv.1 hv.2 (hT.below h)
      clear hT
      go_wp2_with (first | (go_at_call 97; ((with_reducible refine (cp _ (by repeat (first | exact Below.refl _ _ | assumption | refine bExt ?_ _ | refine bAlloc ?_ _ | refine bDrewN ?_ _ | refine bDrew ?_ | refine bSet ?_ (by first | exact Nat.le_refl _ | omega | (simp; done) | (simp; omega)) _))).mono ?_); rintro e w' ⟨rfl, x, rfl⟩)) | (at_builtin; (refine wpl_push_strJ w _ _ _ ?_ rfl _ _ rfl D k dc _ rfl ho ?_ ?_ rfl hkb ?_); (focus (first | rfl | (simp; done))); (focus (repeat (first | exact Below.refl _ _ | assumption | refine bExt ?_ _ | refine bAlloc ?_ _ | refine bDrewN ?_ _ | refine bDrew ?_ | refine bSet ?_ (by first | exact Nat.le_refl _ | omega | (simp; done) | (simp; omega)) _))); (focus (repeat (first | exact Below.refl _ _ | assumption | refine bExt ?_ _ | refine bAlloc ?_ _ | refine bDrewN ?_ _ | refine bDrew ?_ | refine bSet ?_ (by first | exact Nat.le_refl _ | omega | (simp; done) | (simp; omega)) _))); intro D' c' y' ho' hg hd))
      go_roundw
      case rel => exact ⟨k + 1, D', c', y', by omega, by go_num, rfl, rfl, by rw [HW.out]; exact ho'⟩
      case measure => simp [intOf]; omega
    · obtain rfl : k = n := by omega
      have hj := fun W (h : Below (ext w y).heap.size (ext w y) W) => joinW_any W _ D k dc (ptF l) ⟨#[32]⟩ (ho.below h) (by omega) (by omega) (by omega)
      clear hz
      generalize joinTo ⟨#[32]⟩ (ptF l) k = s at *
      go_wp2_with ((go_at_call 98; ((with_reducible refine (hj _ (by repeat (first | exact Below.refl _ _ | assumption | refine bExt ?_ _ | refine bAlloc ?_ _ | refine bDrewN ?_ _ | refine bDrew ?_ | refine bSet ?_ (by first | exact Nat.le_refl _ | omega | (simp; done) | (simp; omega)) _))).mono ?_); rintro e w' ⟨rfl, x, rfl⟩)))
      go_ret
      exact ⟨ret_str (by rw [HV.out]), ext_ex (by repeat (first | exact Below.refl _ _ | assumption | refine bExt ?_ _ | refine bAlloc ?_ _ | refine bDrewN ?_ _ | refine bDrew ?_ | refine bSet ?_ (by first | exact Nat.le_refl _ | omega | (simp; done) | (simp; omega)) _))⟩
end Go.Proofs.YtfmidngndddfiaaGreatDoor
