/- Slices of strings: how they read, and the contracts of the functions that copy, compare and mark them. Conditions: lengths below 2^40. -/
import Derived.Test.YtlfhhkgleapamaaGreatDoorRBase0
import Derived.Deep.RegionHeld3
import Derived.SliceStrings
import Derived.StillTailTactics
set_option linter.unusedVariables false
set_option linter.unusedSimpArgs false
set_option maxRecDepth 100000
set_option maxHeartbeats 16000000
namespace Go.Proofs.YtlfhhkgleapamaaGreatDoor
open Go.RowKit Go.ChangeShapes Go.WideShapes Go.ChangeAt
variable {s : BA} {b base c g k n : Nat} {A : OA} {w : World}
theorem ret_str {a b : BA} (h : a = b) : Ending.returned (.string a) = .returned (.string b) := by rw [h]
def RdT (w : World) (A : OA) (n : Nat) (l : List BA) : Prop := Rd 1 w A n (l.map Value.string)
def OwT (base : Nat) (w : World) (A : OA) (n c : Nat) (l : List BA) : Prop := Ow 9 1 base w A n c (l.map Value.string)
theorem string_info : (Tryz.prog.info? 9).map (fun i => (i.zero, i.size, i.bytes)) = some (some (.string ByteArray.empty), 1, 16) := by kernel_rfl
section
variable {base base' n c : Nat} {w w' : World} {A : OA} {l : List BA}
theorem RdT.below (h : RdT w A n l) (hb : Below w.heap.size w w') : RdT w' A n l := Rd.below h hb
theorem RdT.len (h : RdT w A n l) : l.length = n := by have := h.1; simpa using this
theorem RdT.open_ (h : RdT w A n l) (hn : 0 < n) : ∃ b off, A = some ⟨b, off, none⟩ /\ b < w.heap.size /\ ∀ j, j < n -> w.cell? ⟨b, off + j, none⟩ = some (.string (l[j]?.getD ByteArray.empty)) := by
 have hl := h.len;obtain ⟨b, off, e, hlt, hc⟩ := h.2 hn;refine ⟨b, off, e, hlt, fun j hj => hc j _ ?_⟩;have hj' : j < l.length := Om;simp [hj']
theorem OwT.len (h : OwT base w A n c l) : l.length = n := by have := Ow.len h; simpa using this
theorem OwT.below (h : OwT base w A n c l) (hb : Below w.heap.size w w') : OwT base w' A n c l := Ow.below h hb
theorem OwT.kept {row : Option Nat} (h : OwT base w A n c l) (hg : w.grownBy w' row) (hne : blkOf A = none ∨ blkOf A ≠ row) : OwT base w' A n c l := Ow.kept h hg hne
theorem OwT.mono (h : OwT base w A n c l) (hb : base' <= base) : OwT base' w A n c l := Ow.mono h hb
theorem OwT.nil_ : OwT base w none 0 0 [] := Ow.nil_
theorem OwT.rd (h : OwT base w A n c l) : RdT w A n l := Ow.rd h
theorem OwT.cap_ (h : OwT base w A n c l) : n <= c /\ c <= maxLen := Ow.cap_ h
theorem OwT.blk (h : OwT base w A n c l) (hA : blkOf A = some g) : base <= g /\ g < w.heap.size := Ow.blk h hA
theorem OwT.form_ (h : OwT base w A n c l) (hn : 0 < n) : ∃ g, A = some ⟨g, 0, none⟩ /\ base <= g /\ g < w.heap.size := Ow.form_ h hn
theorem OwT.cell_ (h : OwT base w (some ⟨g, 0, none⟩) n c l) (j : Nat) (hj : j < n) : w.cell? ⟨g, j, none⟩ = some (.string (l[j]?.getD ByteArray.empty)) := by
 have hl := h.len;rw [Ow.cell_ h j Om];simp [show j < l.length by omega]
theorem OwT.frozen_ (h : OwT base w (some ⟨g, 0, none⟩) n c l) (j : Nat) : w.frozen? ⟨g, j, none⟩ = false := Ow.frozen_ h j
theorem OwT.stored_ (h : OwT base w (some ⟨g, 0, none⟩) n c l) (j : Nat) (u : BA) :
  OwT base (w.setCell ⟨g, j, none⟩ (.string u)) (some ⟨g, 0, none⟩) n c (l.set j u) /\ w.grownBy (w.setCell ⟨g, j, none⟩ (.string u)) (some g) := by
 have := Ow.stored_ h j (.string u);refine ⟨?_, this.2⟩;unfold OwT;rw [List.map_set];exact this.1
theorem OwT.lit_ {R : World} (hR : Below R.heap.size R w) (l : List BA) (hl : l.length <= maxLen) (cs : Array Value) (hcs : cs.toList = l.map Value.string) :
  OwT R.heap.size (w.alloc (.cells cs 9)) (some ⟨w.heap.size, 0, none⟩) l.length l.length l := by
 have hs : cs.size = l.length * 1 := by rw [<- Array.length_toList, hcs]; simp
 have := World.ownsRow_lit (base := R.heap.size) (e := 9) (size := 1) w cs l.length hR.size hl hs;rw [hcs] at this;exact this
end
def RetT (w : World) (l : List BA) (e : Ending) (w' : World) : Prop := ∃ A n c x, e = .returned (.slice A n c) /\ w' = ext w x /\ OwT w.heap.size (ext w x) A n c l
theorem RetT.mk_ {W : World} {l : List BA} (ho : OwT base W A n c l) (hbase : w.heap.size <= base) (hb : Below w.heap.size w W) : RetT w l (.returned (.slice A n c)) W := by
 obtain ⟨x, rfl⟩ := ext_ex hb;exact ⟨A, n, c, x, rfl, rfl, ho.mono hbase⟩
def oneB (n : Int) : ByteArray := ByteArray.empty.push (UInt8.ofNat n.toNat)
def byteN (s : BA) (i : Nat) : Nat := if h : i < s.size then s[i].toNat else 0
def okC (b : Nat) : Bool := (decide (65 <= b) && decide (b <= 90)) || (decide (48 <= b) && decide (b <= 57))
def namesTo (s : BA) (k : Nat) : Bool := (List.range k).all fun i => okC (byteN s i)
def nameB (s : BA) : Bool := namesTo s s.size && inB s.size 1 5
theorem namesTo_succ (s : BA) (k : Nat) : namesTo s (k + 1) = (namesTo s k && okC (byteN s k)) := by simp [namesTo, List.range_succ]
theorem name_no {s : BA} {k : Nat} (hk : k < s.size) (h : okC (byteN s k) = false) : nameB s = false := by
 unfold nameB;rw [Bool.and_eq_false_iff]; left;rw [Bool.eq_false_iff]; intro hh;have := List.all_eq_true.1 hh k (by simpa using hk);rw [h] at this; cases this
theorem name_end (h : namesTo s s.size = true) : nameB s = inB s.size 1 5 := by rw [nameB, h, Bool.true_and]
abbrev El := ByteArray × Int × Int × Int
def zEl : El := (ByteArray.empty, 0, 0, 0)
def elCells (l : List El) : List Value := l.flatMap fun p => [.string p.1, .int .i64 p.2.1, .int .i64 p.2.2.1, .int .i64 p.2.2.2]
theorem elCells_cons (a : El) (r : List El) : elCells (a :: r) = .string a.1 :: .int .i64 a.2.1 :: .int .i64 a.2.2.1 :: .int .i64 a.2.2.2 :: elCells r := by simp [elCells]
theorem elCells_len (l : List El) : (elCells l).length = l.length * 4 := by
 induction l with
 | nil => rfl
 | cons a r ih => rw [elCells_cons]; simp only [List.length_cons, ih]; omega
theorem elCells_get (l : List El) (k : Nat) (h : k < l.length) : (elCells l)[k * 4]? = some (.string (l[k]?.getD zEl).1) /\ (elCells l)[k * 4 + 1]? = some (.int .i64 (l[k]?.getD zEl).2.1) /\ (elCells l)[k * 4 + 2]? = some (.int .i64 (l[k]?.getD zEl).2.2.1) /\ (elCells l)[k * 4 + 3]? = some (.int .i64 (l[k]?.getD zEl).2.2.2) := by
 induction l generalizing k with
 | nil => simp at h
 | cons a r ih =>
  rw [elCells_cons]
  cases k with
  | zero => simp
  | succ k =>
   have := ih k (by simpa using h);rw [show (k + 1) * 4 = k * 4 + 1 + 1 + 1 + 1 by omega, show k * 4 + 1 + 1 + 1 + 1 + 1 = (k * 4 + 1) + 1 + 1 + 1 + 1 by omega, show k * 4 + 1 + 1 + 1 + 1 + 2 = (k * 4 + 2) + 1 + 1 + 1 + 1 by omega, show k * 4 + 1 + 1 + 1 + 1 + 3 = (k * 4 + 3) + 1 + 1 + 1 + 1 by omega]
   simpa only [List.getElem?_cons_succ] using this
def RdEl (w : World) (A : OA) (n : Nat) (l : List El) : Prop := Rd 4 w A n (elCells l)
section
variable {n : Nat} {w w' : World} {A : OA} {l : List El}
theorem RdEl.below (h : RdEl w A n l) (hb : Below w.heap.size w w') : RdEl w' A n l := Rd.below h hb
theorem RdEl.len (h : RdEl w A n l) : l.length = n := by have := h.1; rw [elCells_len] at this; omega
theorem RdEl.at_ (h : RdEl w A n l) (k : Nat) (hk : k < n) : ∃ b off, A = some ⟨b, off, none⟩ /\ b < w.heap.size /\ w.cell? ⟨b, off + k * 4, none⟩ = some (.string (l[k]?.getD zEl).1) /\ w.cell? ⟨b, off + k * 4 + 1, none⟩ = some (.int .i64 (l[k]?.getD zEl).2.1) /\ w.cell? ⟨b, off + k * 4 + 2, none⟩ = some (.int .i64 (l[k]?.getD zEl).2.2.1) /\ w.cell? ⟨b, off + k * 4 + 3, none⟩ = some (.int .i64 (l[k]?.getD zEl).2.2.2) := by
 have hl := h.len;obtain ⟨b, off, e, hlt, hc⟩ := h.2 Om;obtain ⟨g0, g1, g2, g3⟩ := elCells_get l k Om;exact ⟨b, off, e, hlt, hc _ _ g0, hc (k * 4 + 1) _ g1, hc (k * 4 + 2) _ g2, hc (k * 4 + 3) _ g3⟩
end
def wtS {α : Type} (f : α -> Int) (l : List α) : Int := (l.map f).sum
section
variable {e base base' n c : Nat} {w w' : World} {A : OA} {l : List El}
end
theorem Element_info : (Tryz.prog.info? 112).map (fun i => (i.zero, i.size, i.bytes)) = some (some (.agg #[.string ByteArray.empty, .int .i64 0, .int .i64 0, .int .i64 0]), 4, 40) := by kernel_rfl
theorem okC_no1 (h1 : b < 48) : okC b = false := by simp [okC]; omega
theorem okC_no2 (h1 : 57 < b) (h2 : b < 65) : okC b = false := by simp [okC]; omega
theorem okC_no3 (h1 : 90 < b) : okC b = false := by simp [okC]; omega
theorem okC_yes1 (h1 : 65 <= b) (h2 : b <= 90) : okC b = true := by simp [okC]; omega
theorem okC_yes2 (h1 : 48 <= b) (h2 : b <= 57) : okC b = true := by simp [okC]; omega
theorem cdName_any (s : BA) (w : World) (hs : s.size <= 9223372036854775807) :
  Calls Tryz.prog 147 #[.string s] w fun e w' => e = .returned (.bool (nameB s)) /\ w = w' := by
 go_enter Tryz.func147, Tryz.ntmps147;go_wp2
 go_loop [3] (fun i => ∃ k : Nat, k <= s.size /\ i = .int .i64 k /\ Hid (namesTo s k = true)) (fun i => s.size - (intOf i).toNat)
 case atStart => exact ⟨0, Om, rfl, rfl⟩
 case round =>
  obtain ⟨k, hk, rfl, HN⟩ := hrel;by_cases hlt : k < s.size
  ·
   have hbe : byteN s k = s[k].toNat := by unfold byteN; rw [dif_pos hlt]
   have HS := Lib.hid (namesTo_succ s k);have HF := Lib.hid (@name_no s k hlt);have hb : s[k].toNat < 256 := s[k].toNat_lt;rw [hbe] at HS HF;clear hbe
   skip
   by_cases h1 : s[k].toNat < 48
   ·
    have hy : okC s[k].toNat = false := okC_no1 h1;have g1 : (s[k].toNat : Int) < 48 := Om;have g2 : (s[k].toNat : Int) < 65 := Om
    ·
     have HF2 := Lib.hid (HF.out hy);go_wp2;go_ret;exact ⟨ret_bool HF2.out.symm, rfl⟩
   ·
    by_cases h2 : s[k].toNat <= 57
    ·
     have hy : okC s[k].toNat = true := okC_yes2 Om h2;have g1 : ¬ (s[k].toNat : Int) < 48 := Om;have g2 : (s[k].toNat : Int) < 65 := Om;have g3 : ¬ (57 : Int) < s[k].toNat := Om;go_wp2
     go_round
     case rel => exact ⟨k + 1, Om, by go_num, by rw [HS.out, HN.out, hy]; rfl⟩
     case measure => simp [intOf]; omega
    ·
     by_cases h3 : s[k].toNat < 65
     ·
      have hy : okC s[k].toNat = false := okC_no2 Om h3;have g1 : ¬ (s[k].toNat : Int) < 48 := Om;have g2 : (s[k].toNat : Int) < 65 := Om;have g3 : (57 : Int) < s[k].toNat := Om
      ·
       have HF2 := Lib.hid (HF.out hy);go_wp2;go_ret;exact ⟨ret_bool HF2.out.symm, rfl⟩
     ·
      by_cases h4 : s[k].toNat <= 90
      ·
       have hy : okC s[k].toNat = true := okC_yes1 Om h4;have g1 : ¬ (s[k].toNat : Int) < 65 := Om;have g2 : ¬ (90 : Int) < s[k].toNat := Om
       ·
        go_wp2
        go_round
        case rel => exact ⟨k + 1, Om, by go_num, by rw [HS.out, HN.out, hy]; rfl⟩
        case measure => simp [intOf]; omega
      ·
       have hy : okC s[k].toNat = false := okC_no3 Om;have g1 : ¬ (s[k].toNat : Int) < 65 := Om;have g2 : (90 : Int) < s[k].toNat := Om;have g3 : ¬ (s[k].toNat : Int) < 48 := Om;have g4 : (57 : Int) < s[k].toNat := Om
       ·
        have HF2 := Lib.hid (HF.out hy);go_wp2;go_ret;exact ⟨ret_bool HF2.out.symm, rfl⟩
  ·
   have HE := Lib.hid (name_end (s := s) (by have := HN.out; rwa [show k = s.size by omega] at this));go_wp2_with (go_at_call 60; (with_reducible refine ep (l1In_any _ _ _ _) ?_))
   go_ret;exact ⟨ret_bool (by rw [HE.out]), rfl⟩
theorem itByte_any (b : Nat) (hb : b < 256) (w : World) : Calls Tryz.prog 228 #[.int .u8 b] w fun e w' => e = .returned (.bool (okC b)) /\ w = w' := by
 by_cases h1 : 65 <= b
 ·
  have g1 : (65 : Int) <= b := Om;by_cases h2 : b <= 90
  ·
   have g2 : (b : Int) <= 90 := Om;rw [okC_yes1 h1 h2];go_enter Tryz.func228, Tryz.ntmps228;go_wp2;go_ret;exact ⟨rfl, rfl⟩
  ·
   have g2 : ¬ (b : Int) <= 90 := Om;have g3 : (48 : Int) <= b := Om;have g4 : ¬ (b : Int) <= 57 := Om;rw [okC_no3 Om];go_enter Tryz.func228, Tryz.ntmps228;go_wp2;go_ret;exact ⟨rfl, rfl⟩
 ·
  have g1 : ¬ (65 : Int) <= b := Om;by_cases h2 : 48 <= b
  ·
   have g2 : (48 : Int) <= b := Om;by_cases h3 : b <= 57
   ·
    have g3 : (b : Int) <= 57 := Om;rw [okC_yes2 h2 h3];go_enter Tryz.func228, Tryz.ntmps228;go_wp2;go_ret;exact ⟨rfl, rfl⟩
   ·
    have g3 : ¬ (b : Int) <= 57 := Om;rw [okC_no2 Om Om];go_enter Tryz.func228, Tryz.ntmps228;go_wp2;go_ret;exact ⟨rfl, rfl⟩
  ·
   have g2 : ¬ (48 : Int) <= b := Om;rw [okC_no1 Om];go_enter Tryz.func228, Tryz.ntmps228;go_wp2;go_ret;exact ⟨rfl, rfl⟩
theorem itName_any (s : BA) (w : World) (hs : s.size <= 9223372036854775807) :
  Calls Tryz.prog 198 #[.string s] w fun e w' => e = .returned (.bool (nameB s)) /\ w = w' := by
 go_enter Tryz.func198, Tryz.ntmps198;go_wp2
 go_loop [3] (fun i => ∃ k : Nat, k <= s.size /\ i = .int .i64 k /\ Hid (namesTo s k = true)) (fun i => s.size - (intOf i).toNat)
 case atStart => exact ⟨0, Om, rfl, rfl⟩
 case round =>
  obtain ⟨k, hk, rfl, HN⟩ := hrel;by_cases hlt : k < s.size
  ·
   have hbe : byteN s k = s[k].toNat := by unfold byteN; rw [dif_pos hlt]
   have HS := Lib.hid (namesTo_succ s k);have HF := Lib.hid (@name_no s k hlt);have hb : s[k].toNat < 256 := s[k].toNat_lt;rw [hbe] at HS HF;clear hbe;have cb := fun W => itByte_any s[k].toNat hb W
   by_cases h1 : s[k].toNat < 48
   ·
    have hy : okC s[k].toNat = false := okC_no1 h1;rw [hy] at cb
    skip
    ·
     have HF2 := Lib.hid (HF.out hy);go_wp2_with (go_at_call 228; (with_reducible refine ep (cb _) ?_))
     go_ret;exact ⟨ret_bool HF2.out.symm, rfl⟩
   ·
    by_cases h2 : s[k].toNat <= 57
    ·
     have hy : okC s[k].toNat = true := okC_yes2 Om h2;rw [hy] at cb
     skip
     skip
     go_wp2_with (go_at_call 228; (with_reducible refine ep (cb _) ?_))
     go_round
     case rel => exact ⟨k + 1, Om, by go_num, by rw [HS.out, HN.out, hy]; rfl⟩
     case measure => simp [intOf]; omega
    ·
     by_cases h3 : s[k].toNat < 65
     ·
      have hy : okC s[k].toNat = false := okC_no2 Om h3;rw [hy] at cb
      skip
      skip
      ·
       have HF2 := Lib.hid (HF.out hy);go_wp2_with (go_at_call 228; (with_reducible refine ep (cb _) ?_))
       go_ret;exact ⟨ret_bool HF2.out.symm, rfl⟩
     ·
      by_cases h4 : s[k].toNat <= 90
      ·
       have hy : okC s[k].toNat = true := okC_yes1 Om h4;rw [hy] at cb
       skip
       ·
        go_wp2_with (go_at_call 228; (with_reducible refine ep (cb _) ?_))
        go_round
        case rel => exact ⟨k + 1, Om, by go_num, by rw [HS.out, HN.out, hy]; rfl⟩
        case measure => simp [intOf]; omega
      ·
       have hy : okC s[k].toNat = false := okC_no3 Om;rw [hy] at cb
       skip
       skip
       skip
       ·
        have HF2 := Lib.hid (HF.out hy);go_wp2_with (go_at_call 228; (with_reducible refine ep (cb _) ?_))
        go_ret;exact ⟨ret_bool HF2.out.symm, rfl⟩
  ·
   have HE := Lib.hid (name_end (s := s) (by have := HN.out; rwa [show k = s.size by omega] at this));go_wp2_with (go_at_call 60; (with_reducible refine ep (l1In_any _ _ _ _) ?_))
   go_ret;exact ⟨ret_bool (by rw [HE.out]), rfl⟩
theorem isElementName_any (s : BA) (w : World) (hs : s.size <= 9223372036854775807) :
  Calls Tryz.prog 85 #[.string s] w fun e w' => e = .returned (.bool (nameB s)) /\ w = w' := by
 go_enter Tryz.func85, Tryz.ntmps85;go_wp2
 go_loop [3] (fun i => ∃ k : Nat, k <= s.size /\ i = .int .i64 k /\ Hid (namesTo s k = true)) (fun i => s.size - (intOf i).toNat)
 case atStart => exact ⟨0, Om, rfl, rfl⟩
 case round =>
  obtain ⟨k, hk, rfl, HN⟩ := hrel;by_cases hlt : k < s.size
  ·
   have hbe : byteN s k = s[k].toNat := by unfold byteN; rw [dif_pos hlt]
   have HS := Lib.hid (namesTo_succ s k);have HF := Lib.hid (@name_no s k hlt);have hb : s[k].toNat < 256 := s[k].toNat_lt;rw [hbe] at HS HF;clear hbe
   skip
   by_cases h1 : s[k].toNat < 48
   ·
    have hy : okC s[k].toNat = false := okC_no1 h1;have g1 : (s[k].toNat : Int) < 48 := Om;have g2 : (s[k].toNat : Int) < 65 := Om
    ·
     have HF2 := Lib.hid (HF.out hy);go_wp2;go_ret;exact ⟨ret_bool HF2.out.symm, rfl⟩
   ·
    by_cases h2 : s[k].toNat <= 57
    ·
     have hy : okC s[k].toNat = true := okC_yes2 Om h2;have g1 : ¬ (s[k].toNat : Int) < 48 := Om;have g2 : (s[k].toNat : Int) < 65 := Om;have g3 : ¬ (57 : Int) < s[k].toNat := Om;go_wp2
     go_round
     case rel => exact ⟨k + 1, Om, by go_num, by rw [HS.out, HN.out, hy]; rfl⟩
     case measure => simp [intOf]; omega
    ·
     by_cases h3 : s[k].toNat < 65
     ·
      have hy : okC s[k].toNat = false := okC_no2 Om h3;have g1 : ¬ (s[k].toNat : Int) < 48 := Om;have g2 : (s[k].toNat : Int) < 65 := Om;have g3 : (57 : Int) < s[k].toNat := Om
      ·
       have HF2 := Lib.hid (HF.out hy);go_wp2;go_ret;exact ⟨ret_bool HF2.out.symm, rfl⟩
     ·
      by_cases h4 : s[k].toNat <= 90
      ·
       have hy : okC s[k].toNat = true := okC_yes1 Om h4;have g1 : ¬ (s[k].toNat : Int) < 65 := Om;have g2 : ¬ (90 : Int) < s[k].toNat := Om
       ·
        go_wp2
        go_round
        case rel => exact ⟨k + 1, Om, by go_num, by rw [HS.out, HN.out, hy]; rfl⟩
        case measure => simp [intOf]; omega
      ·
       have hy : okC s[k].toNat = false := okC_no3 Om;have g1 : ¬ (s[k].toNat : Int) < 65 := Om;have g2 : (90 : Int) < s[k].toNat := Om;have g3 : ¬ (s[k].toNat : Int) < 48 := Om;have g4 : (57 : Int) < s[k].toNat := Om
       ·
        have HF2 := Lib.hid (HF.out hy);go_wp2;go_ret;exact ⟨ret_bool HF2.out.symm, rfl⟩
  ·
   have HE := Lib.hid (name_end (s := s) (by have := HN.out; rwa [show k = s.size by omega] at this));go_wp2_with (go_at_call 64; (with_reducible refine ep (within_any _ _ _ _) ?_))
   go_ret;exact ⟨ret_bool (by rw [HE.out]), rfl⟩
theorem isName_any (s : BA) (w : World) (hs : s.size <= 9223372036854775807) :
  Calls Tryz.prog 222 #[.string s] w fun e w' => e = .returned (.bool (nameB s)) /\ w = w' := by
 go_enter Tryz.func222, Tryz.ntmps222;go_wp2_with (go_at_call 85; (with_reducible refine ep (isElementName_any _ _ hs) ?_))
 go_ret;exact ⟨rfl, rfl⟩
abbrev It := List BA × List Int × Bool
def zIt : It := ([], [], false)
def RdIt (w : World) (A : OA) (n : Nat) (l : List It) : Prop :=
 l.length = n /\ (0 < n -> ∃ b off, A = some ⟨b, off, none⟩ /\ b < w.heap.size /\ ∀ j, j < n -> ∃ NA nn nc MA mn mc, w.cell? ⟨b, off + j * 3, none⟩ = some (.slice NA nn nc) /\ w.cell? ⟨b, off + j * 3 + 1, none⟩ = some (.slice MA mn mc) /\ w.cell? ⟨b, off + j * 3 + 2, none⟩ = some (.bool (l[j]?.getD zIt).2.2) /\ RdT w NA nn (l[j]?.getD zIt).1 /\ RdI w MA mn (l[j]?.getD zIt).2.1 /\ (nn <= nc /\ nc <= maxLen) /\ (mn <= mc /\ mc <= maxLen))
theorem RdIt.below {w' : World} {l : List It} (h : RdIt w A n l) (hb : Below w.heap.size w w') : RdIt w' A n l := by
 refine ⟨h.1, fun hn => ?_⟩;obtain ⟨b, off, rfl, hlt, hc⟩ := h.2 hn;refine ⟨b, off, rfl, Nat.lt_of_lt_of_le hlt hb.size, fun j hj => ?_⟩;obtain ⟨NA, nn, nc, MA, mn, mc, h0, h1, h2, h3, h4, h5, h6⟩ := hc j hj;exact ⟨NA, nn, nc, MA, mn, mc, (hb.cell (p := ⟨b, off + j * 3, none⟩) hlt).trans h0, (hb.cell (p := ⟨b, off + j * 3 + 1, none⟩) hlt).trans h1, (hb.cell (p := ⟨b, off + j * 3 + 2, none⟩) hlt).trans h2, h3.below hb, h4.below hb, h5, h6⟩
def namesB (l : List BA) : Bool := l.all nameB
def itemB (it : It) : Bool := namesB it.1 && (inB it.1.length 1 3 && (decide (it.2.1.length = it.1.length) && allB it.2.1 0 3))
theorem namesB_no {l : List BA} {k : Nat} (hk : k < l.length) (h : nameB (l[k]?.getD ByteArray.empty) = false) : namesB l = false := by
 unfold namesB;rw [Bool.eq_false_iff]; intro hh;have := List.all_eq_true.1 hh _ (getD_mem ByteArray.empty l k hk);rw [h] at this; cases this
theorem namesB_step {l : List BA} {k : Nat} (hk : k < l.length) (h1 : namesB (l.take k) = true) (h : nameB (l[k]?.getD ByteArray.empty) = true) : namesB (l.take (k + 1)) = true := by
 unfold namesB at *;rw [take_succ_getD ByteArray.empty l k hk, List.all_append, h1];simp [h]
theorem itGood_any (w : World) (NA MA : OA) (nn nc mn mc : Nat) (names : List BA) (marks : List Int) (late : Bool) (ha : RdT w NA nn names) (hb : RdI w MA mn marks) (hn : nn <= 1099511627776) (hm : mn <= 1099511627776) (hs : ∀ x ∈ names, x.size <= 9223372036854775807) :
  Calls Tryz.prog 149 #[.agg #[.slice NA nn nc, .slice MA mn mc, .bool late]] w fun e w' => e = .returned (.bool (itemB (names, marks, late))) /\ ∃ y, w' = ext w y := by
 have Hl := Lib.hid ha.len;have Hm := Lib.hid hb.len;go_enter Tryz.func149, Tryz.ntmps149;go_wp2
 go_loopw [4, 8] (fun _ i wr => ∃ (k : Nat), k <= nn /\ i = .int .i64 k /\ wr = w.alloc (.cells #[.slice NA nn nc, .slice MA mn mc, .bool late] 61) /\ Hid (namesB (names.take k) = true)) (fun _ i _ => nn - (intOf i).toNat)
 case atStart => exact ⟨0, Om, rfl, rfl, rfl⟩
 case round =>
  obtain ⟨k, hk, rfl, rfl, HT⟩ := hrel;by_cases hlt : k < nn
  ·
   obtain ⟨b, off, rfl, hb0, hc⟩ := ha.open_ Om;have hck := hc k hlt;have hsk := hs _ (getD_mem ByteArray.empty names k (by rw [Hl.out]; exact hlt));have cn := fun W => itName_any (names[k]?.getD ByteArray.empty) W hsk
   have HN := Lib.hid (@namesB_no names k (by rw [Hl.out]; exact hlt));have HS := Lib.hid (@namesB_step names k (by rw [Hl.out]; exact hlt) HT.out);clear hc;generalize names[k]?.getD ByteArray.empty = s at *
   cases hq : nameB s
   ·
    rw [hq] at cn;have HF := Lib.hid (HN.out hq);go_wp2_with ((go_at_call 198; (with_reducible refine ep (cn _) ?_)))
    go_ret;exact ⟨ret_bool (by rw [itemB, HF.out]; rfl), ext_ex bL⟩
   ·
    rw [hq] at cn;have HY := Lib.hid (HS.out hq);go_wp2_with ((go_at_call 198; (with_reducible refine ep (cn _) ?_)))
    go_roundw
    case rel => exact ⟨k + 1, Om, by go_num, by first | rfl | trivial, HY.out⟩
    case measure => simp [intOf]; omega
  ·
   have HE := Lib.hid (show namesB names = true by have := HT.out; rwa [List.take_of_length_le (by rw [Hl.out]; omega)] at this);have HC : Hid (itemB (names, marks, late) = (inB (nn : Int) 1 3 && (decide (mn = nn) && allB marks 0 3))) := by unfold Hid itemB; simp only [HE.out, Hl.out, Hm.out, Bool.true_and]
   have c0 := fun W => l1In_any (nn : Int) 1 3 W
   have c2 := fun W h => l1All_any W MA mn mc marks 0 3 (hb.below h) hm
   generalize inB (nn : Int) 1 3 = b0 at *;generalize allB marks 0 3 = b2 at *;clear HT HE hs
   cases b0
   ·
    go_wp2_with (first | (go_at_call 60; (with_reducible refine ep (c0 _) ?_)) | (go_at_call 99; (with_reducible refine ep (c2 _ bL) ?_)))
    go_ret;exact ⟨ret_bool (by rw [HC.out]; simp), ext_ex bL⟩
   ·
    by_cases h5 : ¬ mn = nn
    ·
     have h5I : ¬ (mn : Int) = nn := Om;have h5B : ((mn : Int) == nn) = false := by simp; omega
     go_wp2_with (first | (go_at_call 60; (with_reducible refine ep (c0 _) ?_)) | (go_at_call 99; (with_reducible refine ep (c2 _ bL) ?_)))
     go_ret;exact ⟨ret_bool (by rw [HC.out]; simp [h5]), ext_ex bL⟩
    ·
     obtain rfl : mn = nn := Om;clear h5;go_wp2_with (first | (go_at_call 60; (with_reducible refine ep (c0 _) ?_)) | (go_at_call 99; (with_reducible refine ep (c2 _ bL) ?_)))
     go_ret;exact ⟨ret_bool (by rw [HC.out]; simp), ext_ex bL⟩
theorem isItem_any (w : World) (NA MA : OA) (nn nc mn mc : Nat) (names : List BA) (marks : List Int) (late : Bool) (ha : RdT w NA nn names) (hb : RdI w MA mn marks) (hn : nn <= 1099511627776) (hm : mn <= 1099511627776) (hs : ∀ x ∈ names, x.size <= 9223372036854775807) :
  Calls Tryz.prog 185 #[.agg #[.slice NA nn nc, .slice MA mn mc, .bool late]] w fun e w' => e = .returned (.bool (itemB (names, marks, late))) /\ ∃ y, w' = ext w y := by
 have Hl := Lib.hid ha.len;have Hm := Lib.hid hb.len;go_enter Tryz.func185, Tryz.ntmps185;go_wp2
 go_loopw [4, 8] (fun _ i wr => ∃ (k : Nat), k <= nn /\ i = .int .i64 k /\ wr = w.alloc (.cells #[.slice NA nn nc, .slice MA mn mc, .bool late] 61) /\ Hid (namesB (names.take k) = true)) (fun _ i _ => nn - (intOf i).toNat)
 case atStart => exact ⟨0, Om, rfl, rfl, rfl⟩
 case round =>
  obtain ⟨k, hk, rfl, rfl, HT⟩ := hrel;by_cases hlt : k < nn
  ·
   obtain ⟨b, off, rfl, hb0, hc⟩ := ha.open_ Om;have hck := hc k hlt;have hsk := hs _ (getD_mem ByteArray.empty names k (by rw [Hl.out]; exact hlt));have cn := fun W => isName_any (names[k]?.getD ByteArray.empty) W hsk
   have HN := Lib.hid (@namesB_no names k (by rw [Hl.out]; exact hlt));have HS := Lib.hid (@namesB_step names k (by rw [Hl.out]; exact hlt) HT.out);clear hc;generalize names[k]?.getD ByteArray.empty = s at *
   cases hq : nameB s
   ·
    rw [hq] at cn;have HF := Lib.hid (HN.out hq);go_wp2_with ((go_at_call 222; (with_reducible refine ep (cn _) ?_)))
    go_ret;exact ⟨ret_bool (by rw [itemB, HF.out]; rfl), ext_ex bL⟩
   ·
    rw [hq] at cn;have HY := Lib.hid (HS.out hq);go_wp2_with ((go_at_call 222; (with_reducible refine ep (cn _) ?_)))
    go_roundw
    case rel => exact ⟨k + 1, Om, by go_num, by first | rfl | trivial, HY.out⟩
    case measure => simp [intOf]; omega
  ·
   have HE := Lib.hid (show namesB names = true by have := HT.out; rwa [List.take_of_length_le (by rw [Hl.out]; omega)] at this);have HC : Hid (itemB (names, marks, late) = (inB (nn : Int) 1 3 && (decide (mn = nn) && allB marks 0 3))) := by unfold Hid itemB; simp only [HE.out, Hl.out, Hm.out, Bool.true_and]
   have c0 := fun W => within_any (nn : Int) 1 3 W
   have c2 := fun W h => allWithin_any W MA mn mc marks 0 3 (hb.below h) hm
   generalize inB (nn : Int) 1 3 = b0 at *;generalize allB marks 0 3 = b2 at *;clear HT HE hs
   cases b0
   ·
    go_wp2_with (first | (go_at_call 64; (with_reducible refine ep (c0 _) ?_)) | (go_at_call 84; (with_reducible refine ep (c2 _ bL) ?_)))
    go_ret;exact ⟨ret_bool (by rw [HC.out]; simp), ext_ex bL⟩
   ·
    by_cases h5 : ¬ mn = nn
    ·
     have h5I : ¬ (mn : Int) = nn := Om;have h5B : ((mn : Int) == nn) = false := by simp; omega
     go_wp2_with (first | (go_at_call 64; (with_reducible refine ep (c0 _) ?_)) | (go_at_call 84; (with_reducible refine ep (c2 _ bL) ?_)))
     go_ret;exact ⟨ret_bool (by rw [HC.out]; simp [h5]), ext_ex bL⟩
    ·
     obtain rfl : mn = nn := Om;clear h5;go_wp2_with (first | (go_at_call 64; (with_reducible refine ep (c0 _) ?_)) | (go_at_call 84; (with_reducible refine ep (c2 _ bL) ?_)))
     go_ret;exact ⟨ret_bool (by rw [HC.out]; simp), ext_ex bL⟩
theorem RdIt.len {l : List It} (h : RdIt w A n l) : l.length = n := h.1
theorem RdIt.at_ {l : List It} (h : RdIt w A n l) (k : Nat) (hk : k < n) : ∃ b off NA nn nc MA mn mc, A = some ⟨b, off, none⟩ /\ b < w.heap.size /\ w.cell? ⟨b, off + k * 3, none⟩ = some (.slice NA nn nc) /\ w.cell? ⟨b, off + k * 3 + 1, none⟩ = some (.slice MA mn mc) /\ w.cell? ⟨b, off + k * 3 + 2, none⟩ = some (.bool (l[k]?.getD zIt).2.2) /\ RdT w NA nn (l[k]?.getD zIt).1 /\ RdI w MA mn (l[k]?.getD zIt).2.1 /\ (nn <= nc /\ nc <= maxLen) /\ (mn <= mc /\ mc <= maxLen) := by
 obtain ⟨b, off, e, hlt, hc⟩ := h.2 Om;obtain ⟨NA, nn, nc, MA, mn, mc, h1⟩ := hc k hk;exact ⟨b, off, NA, nn, nc, MA, mn, mc, e, hlt, h1⟩
def itSmall (it : It) : Prop := it.1.length <= 1099511627776 /\ it.2.1.length <= 1099511627776 /\ ∀ x ∈ it.1, x.size <= 9223372036854775807
def itemsB (l : List It) : Bool := l.all itemB && decide (l.length <= 14)
theorem itemsB_no {l : List It} {k : Nat} (hk : k < l.length) (h : itemB (l[k]?.getD zIt) = false) : itemsB l = false := by
 unfold itemsB;rw [Bool.and_eq_false_iff]; left;rw [Bool.eq_false_iff]; intro hh;have := List.all_eq_true.1 hh _ (getD_mem zIt l k hk);rw [h] at this; cases this
theorem items_step {l : List It} {k : Nat} (hk : k < l.length) (h1 : (l.take k).all itemB = true) (h : itemB (l[k]?.getD zIt) = true) : (l.take (k + 1)).all itemB = true := by
 rw [take_succ_getD zIt l k hk, List.all_append, h1];simp [h]
theorem itList_any (w : World) (A : OA) (n c : Nat) (its : List It) (ha : RdIt w A n its) (hn : n <= 1099511627776) (hs : ∀ x ∈ its, itSmall x) :
  Calls Tryz.prog 212 #[.slice A n c] w fun e w' => e = .returned (.bool (itemsB its)) /\ ∃ y, w' = ext w y := by
 have Hl := Lib.hid ha.len;go_enter Tryz.func212, Tryz.ntmps212;go_wp2
 go_loopw [4, 7] (fun _ i wr => ∃ (k : Nat) (y : World), k <= n /\ i = .int .i64 k /\ wr = ext w y /\ Hid ((its.take k).all itemB = true)) (fun _ i _ => n - (intOf i).toNat)
 case atStart => exact ⟨0, _, Om, rfl, ext_self w, rfl⟩
 case round =>
  obtain ⟨k, y, hk, rfl, rfl, HT⟩ := hrel;by_cases hlt : k < n
  ·
   obtain ⟨b, off, NA, nn, nc, MA, mn, mc, rfl, hb0, hc0, hc1, hc2, hN, hM, _, _⟩ := ha.at_ k hlt;obtain ⟨z1, z2, z3⟩ := hs _ (getD_mem zIt its k (by rw [Hl.out]; exact hlt));have HN := Lib.hid (@itemsB_no its k (by rw [Hl.out]; exact hlt));have HS := Lib.hid (@items_step its k (by rw [Hl.out]; exact hlt) HT.out);generalize its[k]?.getD zIt = it at *;obtain ⟨names, marks, late⟩ := it;simp only at hc2 hN hM z1 z2 z3;have hnn : nn <= 1099511627776 := by rw [<- hN.len]; exact z1
   have hmn : mn <= 1099511627776 := by rw [<- hM.len]; exact z2
   have cg := fun W h => itGood_any W NA MA nn nc mn mc names marks late (hN.below h) (hM.below h) hnn hmn z3
   cases hq : itemB (names, marks, late)
   ·
    simp only [hq] at cg;have HF := Lib.hid (HN.out hq);go_wp2_with ((go_at_call 149; ((with_reducible refine ex (cg _ bL) ?_); intro y2)))
    go_ret;exact ⟨ret_bool (by rw [HF.out]), ext_ex bL⟩
   ·
    simp only [hq] at cg;have HY := Lib.hid (HS.out hq);go_wp2_with ((go_at_call 149; ((with_reducible refine ex (cg _ bL) ?_); intro y2)))
    go_roundw
    case rel => exact ⟨k + 1, _, Om, by go_num, (ext_ex bL).choose_spec, HY.out⟩
    case measure => simp [intOf]; omega
  ·
   have HE := Lib.hid (show itemsB its = decide (n <= 14) by have := HT.out; rw [List.take_of_length_le (by rw [Hl.out]; omega)] at this; rw [itemsB, this, Hl.out, Bool.true_and]);go_wp2;go_ret;exact ⟨ret_bool (by rw [HE.out]; exact decide_eq_decide.2 Om), ext_ex bL⟩
theorem areItems_any (w : World) (A : OA) (n c : Nat) (its : List It) (ha : RdIt w A n its) (hn : n <= 1099511627776) (hs : ∀ x ∈ its, itSmall x) :
  Calls Tryz.prog 156 #[.slice A n c] w fun e w' => e = .returned (.bool (itemsB its)) /\ ∃ y, w' = ext w y := by
 have Hl := Lib.hid ha.len;go_enter Tryz.func156, Tryz.ntmps156;go_wp2
 go_loopw [4, 7] (fun _ i wr => ∃ (k : Nat) (y : World), k <= n /\ i = .int .i64 k /\ wr = ext w y /\ Hid ((its.take k).all itemB = true)) (fun _ i _ => n - (intOf i).toNat)
 case atStart => exact ⟨0, _, Om, rfl, ext_self w, rfl⟩
 case round =>
  obtain ⟨k, y, hk, rfl, rfl, HT⟩ := hrel;by_cases hlt : k < n
  ·
   obtain ⟨b, off, NA, nn, nc, MA, mn, mc, rfl, hb0, hc0, hc1, hc2, hN, hM, _, _⟩ := ha.at_ k hlt;obtain ⟨z1, z2, z3⟩ := hs _ (getD_mem zIt its k (by rw [Hl.out]; exact hlt));have HN := Lib.hid (@itemsB_no its k (by rw [Hl.out]; exact hlt));have HS := Lib.hid (@items_step its k (by rw [Hl.out]; exact hlt) HT.out);generalize its[k]?.getD zIt = it at *;obtain ⟨names, marks, late⟩ := it;simp only at hc2 hN hM z1 z2 z3;have hnn : nn <= 1099511627776 := by rw [<- hN.len]; exact z1
   have hmn : mn <= 1099511627776 := by rw [<- hM.len]; exact z2
   have cg := fun W h => isItem_any W NA MA nn nc mn mc names marks late (hN.below h) (hM.below h) hnn hmn z3
   cases hq : itemB (names, marks, late)
   ·
    simp only [hq] at cg;have HF := Lib.hid (HN.out hq);go_wp2_with ((go_at_call 185; ((with_reducible refine ex (cg _ bL) ?_); intro y2)))
    go_ret;exact ⟨ret_bool (by rw [HF.out]), ext_ex bL⟩
   ·
    simp only [hq] at cg;have HY := Lib.hid (HS.out hq);go_wp2_with ((go_at_call 185; ((with_reducible refine ex (cg _ bL) ?_); intro y2)))
    go_roundw
    case rel => exact ⟨k + 1, _, Om, by go_num, (ext_ex bL).choose_spec, HY.out⟩
    case measure => simp [intOf]; omega
  ·
   have HE := Lib.hid (show itemsB its = decide (n <= 14) by have := HT.out; rw [List.take_of_length_le (by rw [Hl.out]; omega)] at this; rw [itemsB, this, Hl.out, Bool.true_and]);go_wp2;go_ret;exact ⟨ret_bool (by rw [HE.out]; exact decide_eq_decide.2 Om), ext_ex bL⟩
theorem OwI.setLow {l : List Int} {v : Value} (h : OwI base w A n c l) (hg : g < base) : OwI base (w.setCell ⟨g, k, none⟩ v) A n c l := by
 refine h.kept (gSetM w g k v) ?_
 cases hA : blkOf A with
 | none => exact .inl rfl
 | some z => exact .inr fun e => by have := (h.blk hA).1; injection e with e; omega
theorem OwT.setLow {l : List BA} {v : Value} (h : OwT base w A n c l) (hg : g < base) : OwT base (w.setCell ⟨g, k, none⟩ v) A n c l := by
 refine h.kept (gSetM w g k v) ?_
 cases hA : blkOf A with
 | none => exact .inl rfl
 | some z => exact .inr fun e => by have := (h.blk hA).1; injection e with e; omega
theorem Item_info : (Tryz.prog.info? 61).map (fun i => (i.zero, i.size, i.bytes)) = some (some (.agg #[.slice none 0 0, .slice none 0 0, .bool false]), 3, 56) := by kernel_rfl
abbrev C3 := Value × Value × Value
def nil3 : C3 := (.slice none 0 0, .slice none 0 0, .bool false)
def cells3 (l : List C3) : List Value := l.flatMap fun p => [p.1, p.2.1, p.2.2]
theorem cells3_cons (a : C3) (r : List C3) : cells3 (a :: r) = a.1 :: a.2.1 :: a.2.2 :: cells3 r := by simp [cells3]
theorem cells3_get (l : List C3) (k : Nat) (h : k < l.length) : (cells3 l)[k * 3]? = some (l[k]?.getD nil3).1 /\ (cells3 l)[k * 3 + 1]? = some (l[k]?.getD nil3).2.1 /\ (cells3 l)[k * 3 + 2]? = some (l[k]?.getD nil3).2.2 := by
 induction l generalizing k with
 | nil => simp at h
 | cons a r ih =>
  rw [cells3_cons]
  cases k with
  | zero => simp
  | succ k =>
   have := ih k (by simpa using h);rw [show (k + 1) * 3 = k * 3 + 1 + 1 + 1 by omega, show k * 3 + 1 + 1 + 1 + 1 = (k * 3 + 1) + 1 + 1 + 1 by omega, show k * 3 + 1 + 1 + 1 + 2 = (k * 3 + 2) + 1 + 1 + 1 by omega]
   simpa only [List.getElem?_cons_succ] using this
def elB (x : El) : Bool := nameB x.1 && (inB x.2.1 0 4 && (inB x.2.2.1 0 4 && inB x.2.2.2 1 2000))
theorem cdElement_any (x : El) (w : World) (hs : x.1.size <= 9223372036854775807) :
  Calls Tryz.prog 98 #[.agg #[.string x.1, .int .i64 x.2.1, .int .i64 x.2.2.1, .int .i64 x.2.2.2]] w fun e w' => e = .returned (.bool (elB x)) /\ ∃ y, w' = ext w y := by
 obtain ⟨s, a, b, c⟩ := x;have cn := fun W => cdName_any s W hs
 have c1 := fun W => l1In_any a 0 4 W
 have c2 := fun W => l1In_any b 0 4 W
 have c3 := fun W => l1In_any c 1 2000 W
 have HE : Hid (elB (s, a, b, c) = (nameB s && (inB a 0 4 && (inB b 0 4 && inB c 1 2000)))) := rfl;generalize nameB s = q0 at *;generalize inB a 0 4 = q1 at *;generalize inB b 0 4 = q2 at *;generalize inB c 1 2000 = q3 at *;go_enter Tryz.func98, Tryz.ntmps98
 cases q0
 ·
  go_wp2_with ((go_at_call 147; (with_reducible refine ep (cn _) ?_)))
  go_ret;exact ⟨ret_bool (by rw [HE.out]; rfl), ext_ex bL⟩
 ·
  cases q1
  ·
   go_wp2_with (first | (go_at_call 147; (with_reducible refine ep (cn _) ?_)) | (go_at_call 60; (with_reducible refine ep (c1 _) ?_)))
   go_ret;exact ⟨ret_bool (by rw [HE.out]; rfl), ext_ex bL⟩
  ·
   cases q2
   ·
    go_wp2_with (first | (go_at_call 147; (with_reducible refine ep (cn _) ?_)) | (go_at_call 60; (with_reducible refine ep (c1 _) ?_)) | (go_at_call 60; (with_reducible refine ep (c2 _) ?_)))
    go_ret;exact ⟨ret_bool (by rw [HE.out]; rfl), ext_ex bL⟩
   ·
    go_wp2_with (first | (go_at_call 147; (with_reducible refine ep (cn _) ?_)) | (go_at_call 60; (with_reducible refine ep (c1 _) ?_)) | (go_at_call 60; (with_reducible refine ep (c2 _) ?_)) | (go_at_call 60; (with_reducible refine ep (c3 _) ?_)))
    go_ret;exact ⟨ret_bool (by rw [HE.out]; rfl), ext_ex bL⟩
def eP (l : List El) (s : BA) (i : Nat) : Bool := (l[i]?.getD zEl).1.toList == s.toList
def eI (l : List El) (s : BA) : Nat × Bool := firstIdx (eP l s) l.length
def findE (l : List El) (s : BA) : Int := if (eI l s).2 then (eI l s).1 else -1
theorem eP_hit {l : List El} (hl : l.length = n) (hk : k < n) (hb : ∀ j, j < k -> Hid (eP l s j = false)) (h : eP l s k = true) : eI l s = (k, true) := firstIdx_hit Om hb h
theorem eP_none {l : List El} (hl : l.length = n) (hb : ∀ j, j < n -> Hid (eP l s j = false)) : eI l s = (0, false) := firstIdx_none (fun j hj => hb j Om)
theorem eP_more {l : List El} (hb : ∀ j, j < k -> Hid (eP l s j = false)) (h : eP l s k = false) : ∀ j, j < k + 1 -> Hid (eP l s j = false) := fun j hj => by
 by_cases e : j = k
 ·
  subst e; exact h
 ·
  exact hb j Om
theorem cdFind_any (w : World) (A B : OA) (n m c d : Nat) (els : List El) (q0 q1 q2 q3 : Int) (s : BA) (ha : RdEl w A n els) (hn : n <= 1099511627776) :
  Calls Tryz.prog 240 #[.agg #[.slice A n c, .slice B m d, .int .i64 q0, .int .i64 q1, .int .i64 q2, .int .i64 q3], .string s] w fun e w' => e = .returned (.int .i64 (findE els s)) /\ ∃ y, w' = ext w y := by
 have Hl := Lib.hid ha.len;go_enter Tryz.func240, Tryz.ntmps240;go_wp2
 go_loopw [5, 6, 10] (fun _ _ i wr => ∃ (k : Nat) (y : World), k <= n /\ i = .int .i64 k /\ wr = ext w y /\ ∀ j, j < k -> Hid (eP els s j = false)) (fun _ _ i _ => n - (intOf i).toNat)
 case atStart => exact ⟨0, (ext_ex bL).choose, Om, rfl, (ext_ex bL).choose_spec, fun j hj => by omega⟩
 case round =>
  obtain ⟨k, y, hk, rfl, rfl, hno⟩ := hrel;by_cases hlt : k < n
  ·
   obtain ⟨b, off, rfl, hb, hc0, hc1, hc2, hc3⟩ := ha.at_ k hlt;obtain ⟨p, hp⟩ : ∃ p, els[k]?.getD zEl = p := ⟨_, rfl⟩;rw [hp] at hc0 hc1 hc2 hc3;have HF := Lib.hid (show eP els s k = (p.1.toList == s.toList) by rw [eP, hp]);clear hp
   cases he : (p.1.toList == s.toList)
   ·
    rw [he] at HF;go_wp2;go_roundw
    case rel => exact ⟨k + 1, _, Om, by go_num, (ext_ex bL).choose_spec, eP_more hno HF.out⟩
    case measure => simp [intOf]; omega
   ·
    rw [he] at HF;have HH := Lib.hid (eP_hit Hl.out hlt hno HF.out);go_wp2;go_ret;exact ⟨ret_int (by rw [findE, HH.out]; rfl), ext_ex bL⟩
  ·
   have HH := Lib.hid (eP_none Hl.out (fun j hj => hno j Om));go_wp2;go_ret;exact ⟨ret_int (by rw [findE, HH.out]; rfl), ext_ex bL⟩
theorem sameName_any (x : El) (s : BA) (g : Nat) (w : World) (hg : w.cell? ⟨g, 0, none⟩ = some (.string s)) (hz : g < w.heap.size) :
  Calls Tryz.prog 251 #[.agg #[.string x.1, .int .i64 x.2.1, .int .i64 x.2.2.1, .int .i64 x.2.2.2], .pointer (some ⟨g, 0, none⟩)] w fun e w' => e = .returned (.bool (x.1.toList == s.toList)) /\ ∃ y, w' = ext w y := by
 go_enter Tryz.func251, Tryz.ntmps251;go_wp2;go_ret;exact ⟨rfl, ext_ex bL⟩
theorem indexName_any (w : World) (A : OA) (n c : Nat) (els : List El) (s : BA) (g : Nat) (hg : w.cell? ⟨g, 0, none⟩ = some (.string s)) (hz : g < w.heap.size) (ha : RdEl w A n els) (hn : n <= 1099511627776) :
  Calls Tryz.prog 250 #[.slice A n c, .func (.func 251) #[] #[.pointer (some ⟨g, 0, none⟩)]] w fun e w' => e = .returned (.int .i64 (findE els s)) /\ ∃ y, w' = ext w y := by
 have Hl := Lib.hid ha.len;go_enter Tryz.func250, Tryz.ntmps250;go_wp2
 go_loopw [5, 8] (fun _ i wr => ∃ (k : Nat) (y : World), k <= n /\ i = .int .i64 k /\ wr = ext w y /\ ∀ j, j < k -> Hid (eP els s j = false)) (fun _ i _ => n - (intOf i).toNat)
 case atStart => exact ⟨0, _, Om, rfl, ext_self w, fun j hj => by omega⟩
 case round =>
  obtain ⟨k, y, hk, rfl, rfl, hno⟩ := hrel;by_cases hlt : k < n
  ·
   obtain ⟨b, off, rfl, hb, hc0, hc1, hc2, hc3⟩ := ha.at_ k hlt;obtain ⟨p, hp⟩ : ∃ p, els[k]?.getD zEl = p := ⟨_, rfl⟩;rw [hp] at hc0 hc1 hc2 hc3;have HF := Lib.hid (show eP els s k = (p.1.toList == s.toList) by rw [eP, hp]);have cs := fun W (h1 : W.cell? ⟨g, 0, none⟩ = some (.string s)) (h2 : g < W.heap.size) => sameName_any p s g W h1 h2
   have hge : (ext w y).cell? ⟨g, 0, none⟩ = some (.string s) := ((ext_below w y).cell (p := ⟨g, 0, none⟩) hz).trans hg;have hze : g < (ext w y).heap.size := Nat.lt_of_lt_of_le hz (ext_le w y);clear hp
   cases he : (p.1.toList == s.toList)
   ·
    rw [he] at HF;simp only [he] at cs;go_wp2_with ((go_at_call 251; ((with_reducible refine (cs _ hge hze).mono ?_); rintro e w' ⟨rfl, y2, rfl⟩)))
    go_roundw
    case rel => exact ⟨k + 1, _, Om, by go_num, (ext_ex bL).choose_spec, eP_more hno HF.out⟩
    case measure => simp [intOf]; omega
   ·
    rw [he] at HF;simp only [he] at cs;have HH := Lib.hid (eP_hit Hl.out hlt hno HF.out);go_wp2_with ((go_at_call 251; ((with_reducible refine (cs _ hge hze).mono ?_); rintro e w' ⟨rfl, y2, rfl⟩)))
    go_ret;exact ⟨ret_int (by rw [findE, HH.out]; rfl), ext_ex bL⟩
  ·
   have HH := Lib.hid (eP_none Hl.out (fun j hj => hno j Om));go_wp2;go_ret;exact ⟨ret_int (by rw [findE, HH.out]; rfl), ext_ex bL⟩
theorem findElement_any (w : World) (A B : OA) (n m c d : Nat) (els : List El) (q0 q1 q2 q3 : Int) (s : BA) (ha : RdEl w A n els) (hn : n <= 1099511627776) :
  Calls Tryz.prog 234 #[.agg #[.slice A n c, .slice B m d, .int .i64 q0, .int .i64 q1, .int .i64 q2, .int .i64 q3], .string s] w fun e w' => e = .returned (.int .i64 (findE els s)) /\ ∃ y, w' = ext w y := by
 go_enter Tryz.func234, Tryz.ntmps234;go_wp2_with ((go_at_call 250; ((with_reducible refine ex (indexName_any _ A n c els s _ Sg (by simp) (ha.below bL) hn) ?_); intro y)))
 go_ret;exact ⟨rfl, ext_ex bL⟩
end Go.Proofs.YtlfhhkgleapamaaGreatDoor
