/- Contracts: numbers in a row, slips as text, in the program and in the reference. Conditions: small numbers; the table that Itoa reads. -/
import Derived.Test.YtlfhhkgleapamaaGreatDoorRDoors
import Derived.Test.YtlfhhkgleapamaaGreatDoorRTrims
import Derived.Test.YtlfhhkgleapamaaGreatDoorRLines
import Derived.Test.YtlfhhkgleapamaaGreatDoorRBase0
import Derived.Test.YtlfhhkgleapamaaGreatDoorRShelf
import Derived.Shelf.Strings.Builder1
set_option linter.unusedVariables false
set_option linter.unusedSimpArgs false
set_option maxRecDepth 100000
set_option maxHeartbeats 16000000
namespace Go.Proofs.YtlfhhkgleapamaaGreatDoor
open Go.RowKit
theorem itoa_int (n : Int) (w : World) (h0 : -9223372036854775808 <= n) (h1 : n <= 9223372036854775807) (hT : Tab w) :
  Calls Tryz.prog 112 #[.int .i64 n] w fun e w' => e = .returned (.string (intS n)) /\ ∃ x, w' = ext w x := by
 refine (Tryz.strconv_Itoa n Om h1 w hT).mono ?_;rintro e w' ⟨rfl, k, os, rfl⟩;refine ⟨ret_str ?_, ext_ex (Lib.below_grow w.heap.size w (Nat.le_refl _) k os)⟩;unfold intS numS Lib.itoa;by_cases h : n < 0
 ·
  rw [if_pos h, if_pos h, show (-n).toNat = n.natAbs by omega]
  apply ByteArray.ext
  simp
 ·
  rw [if_neg h, if_neg h]
theorem l1Int_any (n : Int) (w : World) (h0 : -100000 < n) (h1 : n < 100000) :
  Calls Tryz.prog 129 #[.int .i64 n] w fun e w' => e = .returned (.string (intS n)) /\ ∃ x, w' = ext w x := by
 by_cases hn : n < 0
 ·
  have HV : Hid (intS n = ⟨#[45]⟩ ++ numS (-n)) := Lib.hid (if_pos hn);have hz := numS_size 4 (-n) Om Om;have f1 : Fit ((⟨#[45]⟩ : BA) ++ numS (-n)) := by unfold Fit; rw [ByteArray.size_append]; have : ByteArray.size (⟨#[45]⟩ : BA) = 1 := rfl; omega
  have e1 : IntKind.i64.wrap (-n) = -n := IntWalk.i64_in _ Om;have c1 := fun W => l1Num_fuel 4 (-n) W Om Om Om Om
  clear hz;go_enter Tryz.func129, Tryz.ntmps129;go_wp2_with ((go_at_call 81; ((with_reducible refine ex (c1 _) ?_); intro x1)))
  go_ret;exact ⟨ret_str (by rw [HV.out]), ext_ex bL⟩
 ·
  have HV : Hid (intS n = numS n) := Lib.hid (if_neg hn);have c1 := fun W => l1Num_fuel 4 n W Om Om Om Om
  go_enter Tryz.func129, Tryz.ntmps129;go_wp2_with ((go_at_call 81; ((with_reducible refine ex (c1 _) ?_); intro x1)))
  go_ret;exact ⟨ret_str (by rw [HV.out]), ext_ex bL⟩
theorem numbersText_any (w : World) (A : OA) (n c : Nat) (l : List Int) (ha : RdI w A n l) (hl : RowG l) (hT : Tab w) :
  Calls Tryz.prog 76 #[.slice A n c] w fun e w' => e = .returned (.string (numsS l)) /\ ∃ y, w' = ext w y := by
 have Hl := Lib.hid ha.len;have hz := numsS_size hl;have hnn := hl.1;rw [Hl.out] at hnn;have hat : ∀ k, k < n -> -100000 < l[k]?.getD 0 /\ l[k]?.getD 0 < 100000 := fun k hk => hl.at (by rw [Hl.out]; exact hk)
 have HV : Hid (numsS l = joinTo ⟨#[32]⟩ (numF l) n) := by unfold Hid numsS; rw [Hl.out]
 rw [HV.out] at hz;clear hl;go_enter Tryz.func76, Tryz.ntmps76;go_wp2
 go_loopw [3, 5, 9] (fun t _ i wr => ∃ (k : Nat) (D : OA) (dc : Nat) (y : World), k <= n /\ i = .int .i64 k /\ t = .slice D k dc /\ wr = ext w y /\ OwT w.heap.size (ext w y) D k dc (wordsF (numF l) k)) (fun _ _ i _ => n - (intOf i).toNat)
 case atStart =>
  obtain ⟨y, hy⟩ := ext_ex (bAlloc (Below.refl w.heap.size w) (.cells #[] 9));have o0 := OwT.lit_ (Below.refl w.heap.size w) [] (by simp [maxLen]) #[] rfl;rw [hy] at o0;exact ⟨0, _, 0, y, Om, rfl, rfl, hy, by simpa [wordsF] using o0⟩
 case round =>
  obtain ⟨k, D, dc, y, hk, rfl, rfl, rfl, ho⟩ := hrel;by_cases hlt : k < n
  ·
   obtain ⟨b, off, rfl, hb, hc⟩ := ha.open_ Om;have hck := hc k hlt;rw [List.getD_eq_getElem?_getD] at hck;have hv := hat k hlt;have HW : Hid (wordsF (numF l) (k + 1) = wordsF (numF l) k ++ [intS (l[k]?.getD 0)]) := wordsF_succ (numF l) k;have hkb : k <= 1099511627776 := Om;clear hc hz hat;generalize l[k]?.getD 0 = v at *;generalize wordsF (numF l) k = ws at *;have cp := fun W h => itoa_int v W Om Om (hT.below h)
   clear hT;go_wp2_with (first | (go_at_call 112; ((with_reducible refine ex (cp _ bL) ?_); intro x)) | (at_builtin; (refine wpl_push_strJ w _ _ _ ?_ rfl _ _ rfl D k dc _ rfl ho ?_ ?_ rfl hkb ?_); (focus (first | rfl | (simp; done))); exact bL; exact bL; intro D' c' y' ho' hg hd))
   go_roundw
   case rel => exact ⟨k + 1, D', c', y', Om, by go_num, rfl, rfl, by rw [HW.out]; exact ho'⟩
   case measure => simp [intOf]; omega
  ·
   obtain rfl : k = n := Om;have hj := fun W (h : Below (ext w y).heap.size (ext w y) W) => joinW_any W _ D k dc (numF l) ⟨#[32]⟩ (ho.below h) Om Om Om
   clear hz hat;generalize joinTo ⟨#[32]⟩ (numF l) k = s at *;go_wp2_with ((go_at_call 91; ((with_reducible refine (hj _ bL).mono ?_); rintro e w' ⟨rfl, x, rfl⟩)))
   go_ret;exact ⟨ret_str (by rw [HV.out]), ext_ex bL⟩
def slipS (a b c : Int) : ByteArray := numsS [a, b, c]
theorem slipsText_any (a b c : Int) (w : World) (hg : slipB a b c = true) (hr : RowG [a, b, c]) (hT : Tab w) :
  Calls Tryz.prog 78 #[.agg #[.int .i64 a, .int .i64 b, .int .i64 c]] w (RetSK w (slipS a b c) true) := by
 have cs := fun W => areSlips_any a b c W
 rw [hg] at cs;have cn := fun W A c1 (h1 : RdI W A 3 [a, b, c]) (h : Below w.heap.size w W) => numbersText_any W A 3 c1 [a, b, c] h1 hr (hT.below h)
 have HV : Hid (slipS a b c = numsS [a, b, c]) := rfl;clear hg hr hT;generalize numsS [a, b, c] = so at *;go_enter Tryz.func78, Tryz.ntmps78;go_wp2_with (first | (go_at_call 109; ((with_reducible refine ex (cs _) ?_); intro y1)) | (go_at_call 76; ((with_reducible refine ex (cn _ _ _ (RdI.three_ Sg Sg Sg Sg) bL) ?_); intro y2)))
 go_ret2;exact RetSK.mk_ (by rw [HV.out]) rfl bL
theorem dcText_any (a b c : Int) (w : World) (ha : 0 <= a /\ a < 100000) (hb : 0 <= b /\ b < 100000) (hc : 0 <= c /\ c < 100000) :
  Calls Tryz.prog 83 #[.agg #[.int .i64 a, .int .i64 b, .int .i64 c]] w fun e w' => e = .returned (.string (slipS a b c)) /\ ∃ y, w' = ext w y := by
 have c1 := fun W => l1Num_fuel 4 a W Om Om Om Om
 have c2 := fun W => l1Num_fuel 4 b W Om Om Om Om
 have c3 := fun W => l1Num_fuel 4 c W Om Om Om Om
 have z1 := numS_size 4 a Om Om;have z2 := numS_size 4 b Om Om;have z3 := numS_size 4 c Om Om;have HV : Hid (slipS a b c = numS a ++ ⟨#[32]⟩ ++ numS b ++ ⟨#[32]⟩ ++ numS c) := by unfold Hid slipS; rw [numsS_three, intS_pos ha.1, intS_pos hb.1, intS_pos hc.1]
 have zs : ByteArray.size (⟨#[32]⟩ : BA) = 1 := rfl;have f1 : Fit (numS a ++ (⟨#[32]⟩ : BA)) := ft;have f2 : Fit (numS a ++ (⟨#[32]⟩ : BA) ++ numS b) := ft;have f3 : Fit (numS a ++ (⟨#[32]⟩ : BA) ++ numS b ++ (⟨#[32]⟩ : BA)) := ft;have f4 : Fit (numS a ++ (⟨#[32]⟩ : BA) ++ numS b ++ (⟨#[32]⟩ : BA) ++ numS c) := ft;clear z1 z2 z3 zs;have hS := fun W h => kS (R := (w.alloc (.cells #[.int .i64 a, .int .i64 b, .int .i64 c] 33))) (W := W) (l := [(⟨w.heap.size, 0, none⟩, .int .i64 a), (⟨w.heap.size, 1, none⟩, .int .i64 b), (⟨w.heap.size, 2, none⟩, .int .i64 c)]) h
 simp only [Ks] at hS;go_enter Tryz.func83, Tryz.ntmps83;go_wp2
 go_region_held3 (fun w' => w'.cell? ⟨w.heap.size, 0, none⟩ = some (.int .i64 a) /\ w'.cell? ⟨w.heap.size, 1, none⟩ = some (.int .i64 b) /\ w'.cell? ⟨w.heap.size, 2, none⟩ = some (.int .i64 c)) (exact hS _ bL) (first | (go_at_call 81; ((with_reducible refine ex (c1 _) ?_); intro x1)) | (go_at_call 81; ((with_reducible refine ex (c2 _) ?_); intro x2)) | (go_at_call 81; ((with_reducible refine ex (c3 _) ?_); intro x3)))
 all_goals
  go_wp2;go_ret;exact ⟨ret_str (by rw [HV.out]), ext_ex bL⟩
theorem copyCheck_used (b : Nat) (w : World) (h0 : w.cell? ⟨b, 0, none⟩ = some (.pointer (some ⟨b, 0, none⟩))) :
  Calls Tryz.prog 127 #[.pointer (some ⟨b, 0, none⟩)] w fun e w' => e = .returned (.tuple #[]) /\ w' = w := by
 obtain ⟨j, hj, _⟩ := Option.map_eq_some_iff.1 Tryz.Builder_Extra_169.sizeBuilder;go_enter Tryz.func127, Tryz.ntmps127;go_wp2;rw [Lib.run_neq_ptr_same w _ Tryz.underlying96 hj];go_wp2
 go_end0
 exact ⟨rfl, rfl⟩
theorem copyCheck_fresh (b : Nat) (w : World) (h0 : w.cell? ⟨b, 0, none⟩ = some (.pointer none)) (hsh : w.shape? b = some (98, 2)) (hfz : w.frozen? ⟨b, 0, none⟩ = false) :
  Calls Tryz.prog 127 #[.pointer (some ⟨b, 0, none⟩)] w fun e w' => e = .returned (.tuple #[]) /\ w' = w.setCell ⟨b, 0, none⟩ (.pointer (some ⟨b, 0, none⟩)) := by
 obtain ⟨j, hj, hjs⟩ := Option.map_eq_some_iff.1 Tryz.Builder_Extra_169.sizeBuilder;go_enter Tryz.func127, Tryz.ntmps127;go_wp2;rw [Lib.run_to_unsafe w ⟨b, 0, none⟩ Tryz.underlying96 Tryz.underlying175 hj (by rw [hjs]; decide) hsh (Nat.zero_lt_succ 1)];simp only [Result.andThen];rw [Oper.upon_value];go_wp2;rw [run_callFunc_extern Tryz.func178 (by kernel_rfl) (by kernel_rfl) (by kernel_rfl) (e := Extern.AbiNoEscape.same) (by kernel_rfl)];rw [Lib.run_noEscape];simp only [Result.andThen];rw [Oper.upon_value];go_wp2;rw [Lib.run_from_unsafe w ⟨b, 0, none⟩ Tryz.underlying175 Tryz.underlying96 hj hsh Tryz.Builder_Extra_169.liesBuilder];simp only [Result.andThen];rw [Oper.upon_value];go_wp2
 go_end0
 exact ⟨rfl, rfl⟩
theorem copyCheck_any (B b : Nat) (bs : List Value) (w : World) (h : Lib.IsBuilder 98 5 B b bs w) :
  Calls Tryz.prog 127 #[.pointer (some ⟨b, 0, none⟩)] w fun e w' => e = .returned (.tuple #[]) /\ (Lib.BuilderAt 98 5 B b (.pointer (some ⟨b, 0, none⟩)) bs w' /\ Below B w w') := by
 rcases h with h | h
 ·
  refine (copyCheck_fresh b w h.cell0 h.shape h.frozen0).mono ?_;rintro e w' ⟨rfl, rfl⟩;exact ⟨rfl, h.used _, (Below.refl B w).setCell (p := ⟨b, 0, none⟩) h.1 _⟩
 ·
  refine (copyCheck_used b w h.cell0).mono ?_;rintro e w' ⟨rfl, rfl⟩;exact ⟨rfl, h, Below.refl B _⟩
theorem writeString0 (B b : Nat) (bs : List Value) (s : BA) (w : World) (h : Lib.IsBuilder 98 5 B b bs w) (hlen : bs.length + s.size <= 140737488355328) (hBw : B <= w.heap.size) :
  Calls Tryz.prog 75 #[.pointer (some ⟨b, 0, none⟩), .string s] w fun e w' => e = .returned (.tuple #[.int .i64 s.size, .nilIface]) /\ (Lib.BuilderAt 98 5 B b (.pointer (some ⟨b, 0, none⟩)) (bs ++ Lib.strCells s) w' /\ Below B w w') := by
 obtain ⟨i0, hi, hz0, hz1, hz2⟩ := info_parts (show (Tryz.prog.info? 5).map (fun i => (i.zero, i.size, i.bytes)) = some (some (.int .u8 0), 1, 1) from Tryz.Builder_Extra_169.infoByte);go_enter Tryz.func75, Tryz.ntmps75;go_wp2_with (go_at_call 127; (with_reducible refine (copyCheck_any B b bs _ h).mono ?_))
 rintro e w1 ⟨rfl, h1, hb1⟩;obtain ⟨hB, v, hbk, hown, hne⟩ := h1;have c0 : w1.cell? ⟨b, 0, none⟩ = some (.pointer (some ⟨b, 0, none⟩)) := by rw [Lib.cell_of_heap hbk]; rfl
 have c1 : w1.cell? ⟨b, 1, none⟩ = some v := by rw [Lib.cell_of_heap hbk]; rfl
 go_wp2_with (at_builtin; refine Lib.wpList_append_own_string _ rfl _ _ 22 9 rfl B 5 i0 Tryz.underlying22 Tryz.underlying9 hi hz0 hz1 hz2 _ _ _ rfl hown s rfl ?c3 ?c4 ?c5 ?_)
 case c3 => unfold maxLen; omega
 case c4 => omega
 case c5 => have := hb1.size; omega
 intro v' w2 hown' hgrow _;have hlt : b < w1.heap.size := by
  rcases Nat.lt_or_ge b w1.heap.size with h' | h'
  ·
   exact h'
  ·
   simp [Array.getElem?_eq_none h'] at hbk
 have hb2 : w2.heap[b]? = some (.cells #[.pointer (some ⟨b, 0, none⟩), v] 98 (0, 0)) := by
  rw [hgrow.block b hlt (fun e => hne e.symm)];exact hbk
 have d0 : w2.cell? ⟨b, 0, none⟩ = some (.pointer (some ⟨b, 0, none⟩)) := by rw [Lib.cell_of_heap hb2]; rfl
 have d1 : w2.cell? ⟨b, 1, none⟩ = some v := by rw [Lib.cell_of_heap hb2]; rfl
 have f1 : w2.frozen? ⟨b, 1, none⟩ = false := Lib.frozen_of_heap hb2 1;obtain ⟨ao, n', cap, rfl⟩ : ∃ ao n' cap, v' = .slice ao n' cap := by
  rcases hown'.2 with ⟨hv, _⟩ | ⟨g, cap, cur, hv, _⟩
  ·
   exact ⟨_, _, _, hv⟩
  ·
   exact ⟨_, _, _, hv⟩
 go_wp2;go_ret2;refine ⟨rfl, ?_, ?_⟩
 ·
  exact Lib.BuilderAt.put (T := 98) (e := 5) hB hb2 (bs' := bs ++ Lib.strCells s) (by simpa [Lib.strCells_length] using hown') (by decide)
 ·
  exact (hb1.grown hgrow (by have := hb1.size; omega) (fun k hk => (hown.lt k hk).1)).setCell (p := ⟨b, 1, none⟩) hB _
def Bld (B b : Nat) (s : BA) (w : World) : Prop := Lib.IsBuilder 98 5 B b (Lib.strCells s) w
theorem Bld.new (w : World) : Bld w.heap.size w.heap.size ByteArray.empty (w.alloc (.cells #[.pointer none, .slice none 0 0] 98)) := Lib.fresh_isBuilder _ _ w
theorem BuilderAt_below {T e : TypeId} {B b : Nat} {p : Value} {bs : List Value} {w w' : World} (h : Lib.BuilderAt T e B b p bs w) (hb : Below w.heap.size w w') : Lib.BuilderAt T e B b p bs w' := by
 have hl := h.lt;obtain ⟨hB, v, hbk, hown, hne⟩ := h;have hg := grownBy_of_below (row := none) hb;refine ⟨hB, v, (hg.block b hl (by simp)).trans hbk, hown.kept hg ?_, hne⟩
 cases hv : v.ownBlock <;> simp
theorem Bld.below {B b : Nat} {s : BA} {w w' : World} (h : Bld B b s w) (hb : Below w.heap.size w w') : Bld B b s w' := by
 rcases h with h | h
 ·
  exact .inl (BuilderAt_below h hb)
 ·
  exact .inr (BuilderAt_below h hb)
theorem strCells_append (s t : BA) : Lib.strCells (s ++ t) = Lib.strCells s ++ Lib.strCells t := by
 rw [Lib.strCells_eq, Lib.strCells_eq, Lib.strCells_eq, <- Lib.byteCells_append, ByteArray.data_append, Array.toList_append]
theorem writeString_any (B b : Nat) (s t : BA) (w : World) (h : Bld B b s w) (hz : (s ++ t).size <= 1000000) (hBw : B <= w.heap.size) :
  Calls Tryz.prog 75 #[.pointer (some ⟨b, 0, none⟩), .string t] w fun e w' => e = .returned (.tuple #[.int .i64 t.size, .nilIface]) /\ Bld B b (s ++ t) w' /\ Below B w w' := by
 rw [ByteArray.size_append] at hz;refine (writeString0 B b (Lib.strCells s) t w h (by rw [Lib.strCells_length]; omega) hBw).mono ?_;rintro e w' ⟨rfl, h1, h2⟩;exact ⟨rfl, .inr (by rw [strCells_append]; exact h1), h2⟩
theorem buildString_any (B b : Nat) (s : BA) (w : World) (h : Bld B b s w) (hBw : B <= w.heap.size) :
  Calls Tryz.prog 79 #[.pointer (some ⟨b, 0, none⟩)] w fun e w' => e = .returned (.string s) /\ Below B w w' := by
 unfold Bld at h;rw [Lib.strCells_eq] at h;refine (Tryz.Builder_String_any B b s.data.toList w h hBw).mono ?_;rintro e w' ⟨rfl, h1⟩;exact ⟨rfl, h1⟩
def outM (gg kk : List (List Int)) : Nat -> ByteArray
 | 0 => ByteArray.empty
 | 1 => rowsA ⟨#[103]⟩ ByteArray.empty gg gg.length
 | _ => marksS gg kk
theorem mkText_any (w : World) (GA KA : OA) (gn gc kn kc : Nat) (gg kk : List (List Int)) (hG : RdM w GA gn gg) (hK : RdM w KA kn kk) (hg : RowsG gg) (hk : RowsG kk) (hgn : gn <= 100) (hkn : kn <= 100) :
  Calls Tryz.prog 82 #[.agg #[.slice GA gn gc, .slice KA kn kc]] w fun e w' => e = .returned (.string (marksS gg kk)) /\ ∃ y, w' = ext w y := by
 have HG := Lib.hid hG.len;have HK := Lib.hid hK.len;have HO1 : Hid (outM gg kk 1 = rowsA ⟨#[103]⟩ ByteArray.empty gg gn) := by unfold Hid; show rowsA ⟨#[103]⟩ ByteArray.empty gg gg.length = _; rw [HG.out]
 have HO2 : Hid (outM gg kk 2 = rowsA ⟨#[99]⟩ (rowsA ⟨#[103]⟩ ByteArray.empty gg gn) kk kn) := by unfold Hid; show marksS gg kk = _; unfold marksS; rw [HG.out, HK.out]
 have hs1 : (rowsA ⟨#[103]⟩ ByteArray.empty gg gn).size <= 20000 := by
  have := rowsA_size (c := ⟨#[103]⟩) (s := ByteArray.empty) rfl hg gn (by rw [HG.out]; omega);have : ByteArray.empty.size = 0 := rfl;omega
 go_enter Tryz.func82, Tryz.ntmps82;go_wp2
 go_loopw [3, 4, 5, 7, 9, 16] (fun t _ _ _ _ i wr => ∃ (k : Nat) (y : World), k <= 2 /\ i = .int .i64 k /\ t = .string (outM gg kk k) /\ wr = ext ((w.alloc (.cells #[.slice GA gn gc, .slice KA kn kc] 31)).alloc (.cells #[.slice GA gn gc, .slice KA kn kc] 29)) y) (fun _ _ _ _ _ i _ => 2 - (intOf i).toNat)
 case atStart => exact ⟨0, _, Om, rfl, rfl, ext_self _⟩
 case round =>
  obtain ⟨k, y, hk2, rfl, rfl, rfl⟩ := hrel;by_cases hlt : k < 2
  ·
   rcases (
       by omega : k = 0 ∨ k = 1) with rfl | rfl
   ·
    have hce : (ext ((w.alloc (.cells #[.slice GA gn gc, .slice KA kn kc] 31)).alloc (.cells #[.slice GA gn gc, .slice KA kn kc] 29)) y).cell? ⟨w.heap.size + 1, 0, none⟩ = some (.slice GA gn gc) := by simp [go_sem]
    have z0 := fun j hj => rowsA_size (c := ⟨#[103]⟩) (s := ByteArray.empty) rfl hg j hj
    rw [HG.out] at z0;have hs0 : (ByteArray.empty).size <= 20000 := Nat.zero_le _;have HS := fun j => Lib.hid (rowsA.eq_2 ⟨#[103]⟩ (ByteArray.empty) gg j)
    simp only [Int.natCast_zero];go_wp2
    go_loopw [3, 7, 9, 23] (fun t _ _ i wr => ∃ (j : Nat) (y : World), j <= gn /\ i = .int .i64 j /\ t = .string (rowsA ⟨#[103]⟩ (ByteArray.empty) gg j) /\ wr = ext ((w.alloc (.cells #[.slice GA gn gc, .slice KA kn kc] 31)).alloc (.cells #[.slice GA gn gc, .slice KA kn kc] 29)) y) (fun _ _ _ i _ => gn - (intOf i).toNat)
    case atStart => exact ⟨0, y, Om, rfl, rfl, rfl⟩
    case round =>
     obtain ⟨j, y2, hj, rfl, rfl, rfl⟩ := hrel;by_cases hjl : j < gn
     ·
      obtain ⟨b, off, RA, rn, rc, hAe, hb, hc, ha, _, _⟩ := hG.at_ j hjl;subst hAe;have hr := hg j (by rw [HG.out]; exact hjl);have HSj := HS j;have zj := z0 j hj;have hln := ha.len;rw [hln] at HSj;have zr := fun (s : BA) i hi => rowA_size (s := s) hr i hi
      rw [hln] at zr;have hr1 := hr.1;rw [hln] at hr1;have hat := fun i hi => hr.at (k := i) hi
      rw [hln] at hat;clear z0 HS hr hln;generalize rowsA ⟨#[103]⟩ (ByteArray.empty) gg j = s at *;generalize gg[j]?.getD [] = l at *;have zc : ByteArray.size ⟨#[103]⟩ = 1 := rfl;have zs : ByteArray.size (⟨#[32]⟩ : BA) = 1 := rfl;have ze : ByteArray.size (⟨#[10]⟩ : BA) = 1 := rfl;have f1 : Fit (s ++ ⟨#[103]⟩) := ft;have z2 : (s ++ ⟨#[103]⟩).size <= 40001 := by rw [ByteArray.size_append]; omega
      have fc := ((by repeat (first | exact Below.refl _ _ | assumption | refine bExt ?_ _ | refine bAlloc ?_ _ | refine bDrewN ?_ _ | refine bDrew ?_ | refine bSet ?_ (by first | exact Nat.le_refl _ | omega | (simp; done) | (simp; omega)) _) : Below w.heap.size w (ext ((w.alloc (.cells #[.slice (some ⟨b, off, none⟩) gn gc, .slice KA kn kc] 31)).alloc (.cells #[.slice (some ⟨b, off, none⟩) gn gc, .slice KA kn kc] 29)) y2)).cell (p := ⟨b, off + j, none⟩) hb).trans hc;go_wp2;generalize s ++ ⟨#[103]⟩ = s1 at *
      go_loopw [3, 9, 35] (fun t _ i wr => ∃ (i2 : Nat) (y : World), i2 <= rn /\ i = .int .i64 i2 /\ t = .string (rowA s1 l i2) /\ wr = ext ((w.alloc (.cells #[.slice (some ⟨b, off, none⟩) gn gc, .slice KA kn kc] 31)).alloc (.cells #[.slice (some ⟨b, off, none⟩) gn gc, .slice KA kn kc] 29)) y) (fun _ _ i _ => rn - (intOf i).toNat)
      case atStart => exact ⟨0, _, Om, rfl, rfl, (ext_ex bL).choose_spec⟩
      case round =>
       obtain ⟨i2, y3, hi, rfl, rfl, rfl⟩ := hrel;have zi := zr s1 i2 hi;by_cases hil : i2 < rn
       ·
        obtain ⟨b3, o3, hRe, hb3, hc3⟩ := ha.open_ Om;subst hRe;have hck := hc3 i2 hil;rw [List.getD_eq_getElem?_getD] at hck;have hv := hat i2 hil;have zv := intS_size hv.1 hv.2;have HR : Hid (rowA s1 l (i2 + 1) = rowA s1 l i2 ++ (⟨#[32]⟩ ++ intS (l[i2]?.getD 0))) := rfl;clear hc3 hat zr;generalize l[i2]?.getD 0 = v at *;generalize rowA s1 l i2 = s2 at *;have f2 : Fit ((⟨#[32]⟩ : BA) ++ intS v) := ft;have f3 : Fit (s2 ++ ((⟨#[32]⟩ : BA) ++ intS v)) := ft;have cv := fun W => l1Int_any v W hv.1 hv.2
        have fd := ((by repeat (first | exact Below.refl _ _ | assumption | refine bExt ?_ _ | refine bAlloc ?_ _ | refine bDrewN ?_ _ | refine bDrew ?_ | refine bSet ?_ (by first | exact Nat.le_refl _ | omega | (simp; done) | (simp; omega)) _) : Below w.heap.size w (ext ((w.alloc (.cells #[.slice (some ⟨b, off, none⟩) gn gc, .slice KA kn kc] 31)).alloc (.cells #[.slice (some ⟨b, off, none⟩) gn gc, .slice KA kn kc] 29)) y3)).cell (p := ⟨b3, o3 + i2, none⟩) hb3).trans hck;clear zi zv zc zs ze z2 f1 hv;go_wp2_with ((go_at_call 129; ((with_reducible refine ex (cv _) ?_); intro x3)))
        go_roundw
        case rel => exact ⟨i2 + 1, _, Om, by go_num, by rw [HR.out], (ext_ex bL).choose_spec⟩
        case measure => simp [intOf]; omega
       ·
        obtain rfl : i2 = rn := Om;clear hat zr;generalize rowA s1 l i2 = s2 at *;have f2 : Fit (s2 ++ (⟨#[10]⟩ : BA)) := ft;go_wp2;go_roundw
        case rel => exact ⟨j + 1, _, Om, by go_num, by rw [HSj.out], (ext_ex bL).choose_spec⟩
        case measure => simp [intOf]; omega
     ·
      obtain rfl : j = gn := Om;go_wp2;go_roundw
      case rel => exact ⟨1, _, Om, by go_num, by rw [HO1.out], (ext_ex bL).choose_spec⟩
      case measure => simp [intOf]
   ·
    have hce : (ext ((w.alloc (.cells #[.slice GA gn gc, .slice KA kn kc] 31)).alloc (.cells #[.slice GA gn gc, .slice KA kn kc] 29)) y).cell? ⟨w.heap.size + 1, 1, none⟩ = some (.slice KA kn kc) := by simp [go_sem]
    have z0 := fun j hj => rowsA_size (c := ⟨#[99]⟩) (s := rowsA ⟨#[103]⟩ ByteArray.empty gg gn) rfl hk j hj
    rw [HK.out] at z0;have hs0 : (rowsA ⟨#[103]⟩ ByteArray.empty gg gn).size <= 20000 := hs1;have HS := fun j => Lib.hid (rowsA.eq_2 ⟨#[99]⟩ (rowsA ⟨#[103]⟩ ByteArray.empty gg gn) kk j)
    simp only [Int.natCast_one];rw [HO1.out];go_wp2
    go_loopw [3, 7, 9, 23] (fun t _ _ i wr => ∃ (j : Nat) (y : World), j <= kn /\ i = .int .i64 j /\ t = .string (rowsA ⟨#[99]⟩ (rowsA ⟨#[103]⟩ ByteArray.empty gg gn) kk j) /\ wr = ext ((w.alloc (.cells #[.slice GA gn gc, .slice KA kn kc] 31)).alloc (.cells #[.slice GA gn gc, .slice KA kn kc] 29)) y) (fun _ _ _ i _ => kn - (intOf i).toNat)
    case atStart => exact ⟨0, y, Om, rfl, rfl, rfl⟩
    case round =>
     obtain ⟨j, y2, hj, rfl, rfl, rfl⟩ := hrel;by_cases hjl : j < kn
     ·
      obtain ⟨b, off, RA, rn, rc, hAe, hb, hc, ha, _, _⟩ := hK.at_ j hjl;subst hAe;have hr := hk j (by rw [HK.out]; exact hjl);have HSj := HS j;have zj := z0 j hj;have hln := ha.len;rw [hln] at HSj;have zr := fun (s : BA) i hi => rowA_size (s := s) hr i hi
      rw [hln] at zr;have hr1 := hr.1;rw [hln] at hr1;have hat := fun i hi => hr.at (k := i) hi
      rw [hln] at hat;clear z0 HS hr hln;generalize rowsA ⟨#[99]⟩ (rowsA ⟨#[103]⟩ ByteArray.empty gg gn) kk j = s at *;generalize kk[j]?.getD [] = l at *;have zc : ByteArray.size ⟨#[99]⟩ = 1 := rfl;have zs : ByteArray.size (⟨#[32]⟩ : BA) = 1 := rfl;have ze : ByteArray.size (⟨#[10]⟩ : BA) = 1 := rfl;have f1 : Fit (s ++ ⟨#[99]⟩) := ft;have z2 : (s ++ ⟨#[99]⟩).size <= 40001 := by rw [ByteArray.size_append]; omega
      have fc := ((by repeat (first | exact Below.refl _ _ | assumption | refine bExt ?_ _ | refine bAlloc ?_ _ | refine bDrewN ?_ _ | refine bDrew ?_ | refine bSet ?_ (by first | exact Nat.le_refl _ | omega | (simp; done) | (simp; omega)) _) : Below w.heap.size w (ext ((w.alloc (.cells #[.slice GA gn gc, .slice (some ⟨b, off, none⟩) kn kc] 31)).alloc (.cells #[.slice GA gn gc, .slice (some ⟨b, off, none⟩) kn kc] 29)) y2)).cell (p := ⟨b, off + j, none⟩) hb).trans hc;go_wp2;generalize s ++ ⟨#[99]⟩ = s1 at *
      go_loopw [3, 9, 35] (fun t _ i wr => ∃ (i2 : Nat) (y : World), i2 <= rn /\ i = .int .i64 i2 /\ t = .string (rowA s1 l i2) /\ wr = ext ((w.alloc (.cells #[.slice GA gn gc, .slice (some ⟨b, off, none⟩) kn kc] 31)).alloc (.cells #[.slice GA gn gc, .slice (some ⟨b, off, none⟩) kn kc] 29)) y) (fun _ _ i _ => rn - (intOf i).toNat)
      case atStart => exact ⟨0, _, Om, rfl, rfl, (ext_ex bL).choose_spec⟩
      case round =>
       obtain ⟨i2, y3, hi, rfl, rfl, rfl⟩ := hrel;have zi := zr s1 i2 hi;by_cases hil : i2 < rn
       ·
        obtain ⟨b3, o3, hRe, hb3, hc3⟩ := ha.open_ Om;subst hRe;have hck := hc3 i2 hil;rw [List.getD_eq_getElem?_getD] at hck;have hv := hat i2 hil;have zv := intS_size hv.1 hv.2;have HR : Hid (rowA s1 l (i2 + 1) = rowA s1 l i2 ++ (⟨#[32]⟩ ++ intS (l[i2]?.getD 0))) := rfl;clear hc3 hat zr;generalize l[i2]?.getD 0 = v at *;generalize rowA s1 l i2 = s2 at *;have f2 : Fit ((⟨#[32]⟩ : BA) ++ intS v) := ft;have f3 : Fit (s2 ++ ((⟨#[32]⟩ : BA) ++ intS v)) := ft;have cv := fun W => l1Int_any v W hv.1 hv.2
        have fd := ((by repeat (first | exact Below.refl _ _ | assumption | refine bExt ?_ _ | refine bAlloc ?_ _ | refine bDrewN ?_ _ | refine bDrew ?_ | refine bSet ?_ (by first | exact Nat.le_refl _ | omega | (simp; done) | (simp; omega)) _) : Below w.heap.size w (ext ((w.alloc (.cells #[.slice GA gn gc, .slice (some ⟨b, off, none⟩) kn kc] 31)).alloc (.cells #[.slice GA gn gc, .slice (some ⟨b, off, none⟩) kn kc] 29)) y3)).cell (p := ⟨b3, o3 + i2, none⟩) hb3).trans hck;clear zi zv zc zs ze z2 f1 hv;go_wp2_with ((go_at_call 129; ((with_reducible refine ex (cv _) ?_); intro x3)))
        go_roundw
        case rel => exact ⟨i2 + 1, _, Om, by go_num, by rw [HR.out], (ext_ex bL).choose_spec⟩
        case measure => simp [intOf]; omega
       ·
        obtain rfl : i2 = rn := Om;clear hat zr;generalize rowA s1 l i2 = s2 at *;have f2 : Fit (s2 ++ (⟨#[10]⟩ : BA)) := ft;go_wp2;go_roundw
        case rel => exact ⟨j + 1, _, Om, by go_num, by rw [HSj.out], (ext_ex bL).choose_spec⟩
        case measure => simp [intOf]; omega
     ·
      obtain rfl : j = kn := Om;go_wp2;go_roundw
      case rel => exact ⟨2, _, Om, by go_num, by rw [HO2.out], (ext_ex bL).choose_spec⟩
      case measure => simp [intOf]
  ·
   obtain rfl : k = 2 := Om;go_wp2;go_ret;exact ⟨ret_str rfl, ext_ex bL⟩
theorem marksText_any' (w : World) (GA KA : OA) (gn gc kn kc : Nat) (gg kk : List (List Int)) (hm : RdMk w GA gn KA kn gg kk) (hB : marksB gg kk = true) (hTab : Tab w) :
  Calls Tryz.prog 77 #[.agg #[.slice GA gn gc, .slice KA kn kc]] w (RetSK w (marksS gg kk) true) := by
 have ci := fun W h => isMarks_any W GA KA gn kn gc kc gg kk (hm.below h)
 rw [hB] at ci;have hG := hm.1;have hK := hm.2.1;obtain ⟨hg, hk⟩ := marks_rows hB;have hmo := marksB_of hB;have HG := Lib.hid hG.len;have HK := Lib.hid hK.len;have hgn : gn <= 14 := by have := HG.out; omega
 have hkn : kn <= 3 := by have := HK.out; omega
 have HV : Hid (marksS gg kk = rowsA ⟨#[99]⟩ (rowsA ⟨#[103]⟩ ByteArray.empty gg gn) kk kn) := by unfold Hid marksS; rw [HG.out, HK.out]
 have hs1 := rowsA_size (c := ⟨#[103]⟩) (s := ByteArray.empty) rfl hg gn (by rw [HG.out]; omega);have hs0 : ByteArray.empty.size = 0 := rfl;clear hmo hm hB;have hS := fun W h => kS (R := (w.alloc (.cells #[.slice GA gn gc, .slice KA kn kc] 31))) (W := W) (l := [(⟨w.heap.size, 0, none⟩, .slice GA gn gc), (⟨w.heap.size, 1, none⟩, .slice KA kn kc)]) h
 simp only [Ks] at hS;go_enter Tryz.func77, Tryz.ntmps77;go_wp2_with ((go_at_call 128; ((with_reducible refine ex (ci _ bL) ?_); intro y1)))
 obtain ⟨w1, hw1⟩ : ∃ w1, w1 = ext (w.alloc (.cells #[.slice GA gn gc, .slice KA kn kc] 31)) y1 := ⟨_, rfl⟩;have hbR : Below (w.alloc (.cells #[.slice GA gn gc, .slice KA kn kc] 31)).heap.size (w.alloc (.cells #[.slice GA gn gc, .slice KA kn kc] 31)) w1 := by rw [hw1]; repeat first | exact .refl _ _ | assumption | refine bExt ?_ _ | refine bAlloc ?_ _ | refine bDrewN ?_ _ | refine bDrew ?_ | refine bSet ?_ (by first | exact Nat.le_refl _ | omega | (simp <;> omega)) _
 have hbw : Below w.heap.size w w1 := by rw [hw1]; repeat first | exact .refl _ _ | assumption | refine bExt ?_ _ | refine bAlloc ?_ _ | refine bDrewN ?_ _ | refine bDrew ?_ | refine bSet ?_ (by first | exact Nat.le_refl _ | omega | (simp <;> omega)) _
 rw [<- hw1];clear hw1;have hS := fun (W : World) (h : Below w1.heap.size w1 W) => hS W (hbR.trans (h.mono hbR.size))
 go_loopw [6, 15] (fun _ i wr => ∃ (k : Nat) (y : World), k <= gn /\ i = .int .i64 k /\ wr = ext w1 y /\ Bld w1.heap.size w1.heap.size (rowsA ⟨#[103]⟩ (ByteArray.empty) gg k) (ext w1 y)) (fun _ i _ => gn - (intOf i).toNat)
 case atStart =>
  obtain ⟨y, hy⟩ := ext_ex (show Below w1.heap.size w1 (w1.alloc (.cells #[.pointer none, .slice none 0 0] 98)) from bL);have o0 := Bld.new w1;rw [hy] at o0;exact ⟨0, y, Om, rfl, hy, o0⟩
 case round =>
  obtain ⟨k, y, hk0, rfl, rfl, hB⟩ := hrel;have zk := rowsA_size (c := ⟨#[103]⟩) (s := ByteArray.empty) rfl hg k (by rw [HG.out]; exact hk0);have fR := hS (ext w1 y) bL;by_cases hlt : k < gn
  ·
   obtain ⟨b, off, RA, rn, rc, hAe, hb, hc, ha, _, _⟩ := hG.at_ k hlt;subst hAe;have HLn : Hid (rowsA ⟨#[103]⟩ (ByteArray.empty) gg (k + 1) = rowsA ⟨#[103]⟩ (ByteArray.empty) gg k ++ ((⟨#[103, 32]⟩ : BA) ++ numsS (gg[k]?.getD []) ++ ⟨#[10]⟩)) := rowsA_line ⟨#[103]⟩ (ByteArray.empty) hg k (by rw [HG.out]; exact hlt);have hr1 := hg k (by rw [HG.out]; exact hlt);have zn := numsS_size hr1;have cn := fun W h => numbersText_any W RA rn rc (gg[k]?.getD []) (ha.below h) hr1 (hTab.below h)
   have fc := ((by repeat (first | exact Below.refl _ _ | assumption | refine bExt ?_ _ | refine bAlloc ?_ _ | refine bDrewN ?_ _ | refine bDrew ?_ | refine bSet ?_ (by first | exact Nat.le_refl _ | omega | (simp; done) | (simp; omega)) _) : Below w.heap.size w (ext w1 y)).cell (p := ⟨b, off + k, none⟩) hb).trans hc;clear hr1 ha;generalize numsS (gg[k]?.getD []) = ns at *;generalize rowsA ⟨#[103]⟩ (ByteArray.empty) gg k = s at *;have zl : ByteArray.size (⟨#[103, 32]⟩ : BA) = 2 := rfl;have ze : ByteArray.size (⟨#[10]⟩ : BA) = 1 := rfl;have f1 : Fit ((⟨#[103, 32]⟩ : BA) ++ ns) := ft;have f2 : Fit ((⟨#[103, 32]⟩ : BA) ++ ns ++ (⟨#[10]⟩ : BA)) := ft;have hz : (s ++ ((⟨#[103, 32]⟩ : BA) ++ ns ++ (⟨#[10]⟩ : BA))).size <= 1000000 := by simp only [ByteArray.size_append]; omega
   have hsz : w1.heap.size <= (ext w1 y).heap.size := (show Below w1.heap.size w1 (ext w1 y) from bL).size;have cw := fun W (h : Below (ext w1 y).heap.size (ext w1 y) W) => writeString_any w1.heap.size w1.heap.size s ((⟨#[103, 32]⟩ : BA) ++ ns ++ (⟨#[10]⟩ : BA)) W (hB.below h) hz (Nat.le_trans hsz h.size)
   clear zk zn zl ze hz;go_wp2_with (first | (go_at_call 76; ((with_reducible refine ex (cn _ bL) ?_); intro x)) | (go_at_call 75; ((with_reducible refine (cw _ bL).mono ?_); rintro e w' ⟨rfl, hB2, hb2⟩)))
   obtain ⟨y2, rfl⟩ := ext_ex (Below.trans (show Below w1.heap.size w1 (ext (ext w1 y) x) from bL) hb2);go_roundw
   case rel => exact ⟨k + 1, y2, Om, by go_num, rfl, by rw [HLn.out]; exact hB2⟩
   case measure => simp [intOf]; omega
  ·
   obtain rfl : k = gn := Om;have hs1 := zk;clear zk;generalize rowsA ⟨#[103]⟩ ByteArray.empty gg k = s1 at *;go_wp2;clear fR
   go_loopw [8, 28] (fun _ i wr => ∃ (k : Nat) (y : World), k <= kn /\ i = .int .i64 k /\ wr = ext w1 y /\ Bld w1.heap.size w1.heap.size (rowsA ⟨#[99]⟩ (s1) kk k) (ext w1 y)) (fun _ i _ => kn - (intOf i).toNat)
   case atStart => exact ⟨0, y, Om, rfl, rfl, hB⟩
   case round =>
    obtain ⟨j, y3, hj0, rfl, rfl, hB3⟩ := hrel;have zk := rowsA_size (c := ⟨#[99]⟩) (s := s1) rfl hk j (by rw [HK.out]; exact hj0);have fR := hS (ext w1 y3) bL;by_cases hlt : j < kn
    ·
     obtain ⟨b, off, RA, rn, rc, hAe, hb, hc, ha, _, _⟩ := hK.at_ j hlt;subst hAe;have HLn : Hid (rowsA ⟨#[99]⟩ (s1) kk (j + 1) = rowsA ⟨#[99]⟩ (s1) kk j ++ ((⟨#[99, 32]⟩ : BA) ++ numsS (kk[j]?.getD []) ++ ⟨#[10]⟩)) := rowsA_line ⟨#[99]⟩ (s1) hk j (by rw [HK.out]; exact hlt);have hr1 := hk j (by rw [HK.out]; exact hlt);have zn := numsS_size hr1;have cn := fun W h => numbersText_any W RA rn rc (kk[j]?.getD []) (ha.below h) hr1 (hTab.below h)
     have fc := ((by repeat (first | exact Below.refl _ _ | assumption | refine bExt ?_ _ | refine bAlloc ?_ _ | refine bDrewN ?_ _ | refine bDrew ?_ | refine bSet ?_ (by first | exact Nat.le_refl _ | omega | (simp; done) | (simp; omega)) _) : Below w.heap.size w (ext w1 y3)).cell (p := ⟨b, off + j, none⟩) hb).trans hc;clear hr1 ha;generalize numsS (kk[j]?.getD []) = ns at *;generalize rowsA ⟨#[99]⟩ (s1) kk j = s at *;have zl : ByteArray.size (⟨#[99, 32]⟩ : BA) = 2 := rfl;have ze : ByteArray.size (⟨#[10]⟩ : BA) = 1 := rfl;have f1 : Fit ((⟨#[99, 32]⟩ : BA) ++ ns) := ft;have f2 : Fit ((⟨#[99, 32]⟩ : BA) ++ ns ++ (⟨#[10]⟩ : BA)) := ft;have hz : (s ++ ((⟨#[99, 32]⟩ : BA) ++ ns ++ (⟨#[10]⟩ : BA))).size <= 1000000 := by simp only [ByteArray.size_append]; omega
     have hsz : w1.heap.size <= (ext w1 y3).heap.size := (show Below w1.heap.size w1 (ext w1 y3) from bL).size;have cw := fun W (h : Below (ext w1 y3).heap.size (ext w1 y3) W) => writeString_any w1.heap.size w1.heap.size s ((⟨#[99, 32]⟩ : BA) ++ ns ++ (⟨#[10]⟩ : BA)) W (hB3.below h) hz (Nat.le_trans hsz h.size)
     clear zk zn zl ze hz;go_wp2_with (first | (go_at_call 76; ((with_reducible refine ex (cn _ bL) ?_); intro x)) | (go_at_call 75; ((with_reducible refine (cw _ bL).mono ?_); rintro e w' ⟨rfl, hB2, hb2⟩)))
     obtain ⟨y2, rfl⟩ := ext_ex (Below.trans (show Below w1.heap.size w1 (ext (ext w1 y3) x) from bL) hb2);go_roundw
     case rel => exact ⟨j + 1, y2, Om, by go_num, rfl, by rw [HLn.out]; exact hB2⟩
     case measure => simp [intOf]; omega
    ·
     obtain rfl : j = kn := Om;have cs := fun W (h : Below (ext w1 y3).heap.size (ext w1 y3) W) => buildString_any w1.heap.size w1.heap.size _ W (hB3.below h) (Nat.le_trans (show Below w1.heap.size w1 (ext w1 y3) from bL).size h.size)
     rw [<- HV.out] at cs;clear HV zk fR;generalize marksS gg kk = ms at *;go_wp2_with ((go_at_call 79; ((with_reducible refine (cs _ bL).mono ?_); rintro e w' ⟨rfl, hb5⟩)))
     obtain ⟨y6, rfl⟩ := ext_ex (Below.trans (show Below w1.heap.size w1 (ext w1 y3) from bL) hb5);go_ret2;exact RetSK.mk_ rfl rfl bL
end Go.Proofs.YtlfhhkgleapamaaGreatDoor
