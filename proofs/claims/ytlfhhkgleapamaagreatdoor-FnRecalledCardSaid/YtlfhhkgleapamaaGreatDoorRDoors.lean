/- Append of one string to a row of the call's own. Conditions: lengths below 2^40. -/
import Derived.Test.YtlfhhkgleapamaaGreatDoorRBase0
import Derived.Test.YtlfhhkgleapamaaGreatDoorRStrs0
import Derived.Lib.ItoaNum
import Derived.Lib.ItoaLen
import Derived.Deep.RegionHeld3
import Derived.Test.YtlfhhkgleapamaaGreatDoorRShelf
import Derived.Lib.LaidTab
import Derived.Deep.DeepHandedRow
import Derived.Lib.AppendIntMem
import Derived.Laws.Concat
import Derived.Test.YtlfhhkgleapamaaGreatDoorRBase1s
import Derived.Lib.Join
import Derived.BigQuiet
import Derived.Deep.RegionLaw
import Derived.Test.YtlfhhkgleapamaaGreatDoorRGoods
import Derived.ChangeVars
set_option linter.unusedVariables false
set_option linter.unusedSimpArgs false
set_option maxRecDepth 100000
set_option maxHeartbeats 16000000
namespace Go.Proofs.YtlfhhkgleapamaaGreatDoor
open Go.RowKit Go.ChangeShapes
variable {n : Int} {it : It} {gg kk : List (List Int)} {l : List Int} {its : List It} {W : World}
section
variable {ops : Array Oper} {rest : List Oper} {o : Oper} {a : Act} {Q : Exit -> Act -> World -> Prop}
theorem wpl_push_strJ (R W : World) (v : BA) (gx : Nat) (hgx : gx = W.heap.size) (hgd : o.guard = none) (s x : Operand) (ho : o.op = .call { callee := .builtin .append, args := #[s, x], argTypes := #[59, 59] })
  (A : OA) (n c : Nat) (l : List BA) (hs : a.eval s = .slice A n c) {W₀ : World} (hown₀ : OwT R.heap.size W₀ A n c l) (hW₀ : Below W₀.heap.size W₀ W) (hR : Below R.heap.size R W)
  (hx : a.eval x = .slice (some ⟨gx, 0, none⟩) 1 1) (hn : n <= 1099511627776)
  (h : ∀ A' c' y, OwT R.heap.size (ext R y) A' (n + 1) c' (l ++ [v]) -> W.grownBy (ext R y) (blkOf A) -> (blkOf A' = blkOf A ∨ ∃ g, blkOf A' = some g /\ W.heap.size < g) -> wpList Tryz.prog ops Q rest (a.put o.dst (.slice A' (n + 1) c')) (ext R y)) :
  wpList Tryz.prog ops Q (o :: rest) a (W.alloc (.cells #[.string v] 9)) := by
 subst hgx;have hown := hown₀.below hW₀;obtain ⟨i0, hi0, hz0, hz1, hz2⟩ := info_parts string_info;have hRw : Below R.heap.size R (W.alloc (.cells #[.string v] 9)) := bAlloc hR _;have hown1 := hown.below (bAlloc (Below.refl W.heap.size W) (.cells #[.string v] 9));refine wpList_append_own_at _ hgd s x _ ho R.heap.size 9 i0 (.string ByteArray.empty) 1 16 Tryz.underlying59 hi0 hz0 hz1 hz2 rfl Om (.slice A n c) n (l.map Value.string) hs hown1
  ⟨W.heap.size, 0, none⟩ 1 1 [.string v] hx rfl ?_ (by simp [Value.oneCell']) (by simp only [maxLen]; omega) Om hRw.size ?_
 ·
  intro j u hu
  match j with
  | 0 => simp at hu; subst hu; simp [Addr.add, go_sem]
  | j + 1 => simp at hu
 ·
  intro v' w' hown' hg _ hd;rw [ownBlock_slice] at hg hd;have hBw : Below R.heap.size R w' := below_grown hRw hg (fun k hk => (hown1.blk hk).1);obtain ⟨y, rfl⟩ := ext_ex hBw
  rcases hown'.2 with ⟨_, h0⟩ | ⟨g', cap, cur, rfl, hrest⟩
  ·
   omega
  ·
   rw [ownBlock_slice] at hd;refine h _ _ y ?_ ((World.grownBy_alloc W _ _).trans hg) ?_
   ·
    have : (l ++ [v]).map Value.string = l.map Value.string ++ [.string v] := by simp
    unfold OwT Ow;rw [this];exact hown'
   ·
    rcases hd with hd | hd
    ·
     exact .inl hd
    ·
     exact .inr ⟨_, hd, by simp⟩
end
def numS (n : Int) : ByteArray := ⟨(Lib.decDigits n.toNat).toArray⟩
theorem oneB_data (n : Int) : oneB n = ⟨#[UInt8.ofNat n.toNat]⟩ := rfl
theorem numS_small (h0 : 0 <= n) (h : n < 10) : numS n = oneB (48 + n) := by
 unfold numS;rw [Lib.decDigits_one Om, oneB_data, show (48 + n).toNat = 48 + n.toNat by omega]
theorem numS_step (h : 10 <= n) : numS n = numS (n / 10) ++ oneB (48 + n % 10) := by
 unfold numS;rw [Lib.decDigits, dif_neg Om, oneB_data, show (48 + n % 10).toNat = 48 + n.toNat % 10 by omega, show (n / 10).toNat = n.toNat / 10 by omega]
 apply ByteArray.ext
 simp
theorem numS_size : ∀ (k : Nat) (n : Int), 0 <= n -> n.toNat < 10 ^ (k + 1) -> (numS n).size <= k + 1 := by
 intro k
 induction k with
 | zero => intro n h0 h1; rw [numS_small h0 Om]; exact Nat.le_trans (by simp [oneB, ByteArray.size_push]) (Nat.le_refl 1)
 | succ k ih =>
  intro n h0 h1;by_cases h : n < 10
  ·
   rw [numS_small h0 h]; exact Nat.le_trans (show (oneB (48 + n)).size <= 1 by simp [oneB, ByteArray.size_push]) Om
  ·
   rw [numS_step Om, ByteArray.size_append];have h2 := ih (n / 10) Om (by rw [Nat.pow_succ] at h1; omega);have h3 : (oneB (48 + n % 10)).size <= 1 := by simp [oneB, ByteArray.size_push]
   omega
theorem run_conv_u8 (W : World) (n : Int) (g : Nat) (h : g = W.heap.size) : (convert 22 9 (.slice (some ⟨g, 0, none⟩) 1 1)).run Tryz.prog (W.alloc (.cells #[.int .u8 n] 5)) = .ok (.string (oneB n)) (W.alloc (.cells #[.int .u8 n] 5)) := by
 subst h;have hl := run_loadCells_list (P := Tryz.prog) (W.alloc (.cells #[.int .u8 n] 5)) ⟨W.heap.size, 0, none⟩ [Value.int .u8 n] (fun j v hj => by
  match j with
  | 0 => simp at hj; subst hj; simp [Addr.add, go_sem]
  | j + 1 => simp at hj)
 rw [run_convert_bytes_string _ _ _ _ _ _ _ Tryz.underlying22 Tryz.underlying5 Tryz.underlying9, run_bytesToString _ _ 1 1 [n] hl]
 rfl
attribute [go_sem] run_conv_u8
theorem run_conv_old (W : World) (n : Int) (g : Nat) (h : W.cell? ⟨g, 0, none⟩ = some (.int .u8 n)) : (convert 22 9 (.slice (some ⟨g, 0, none⟩) 1 1)).run Tryz.prog W = .ok (.string (oneB n)) W := by
 have hl := run_loadCells_list (P := Tryz.prog) W ⟨g, 0, none⟩ [Value.int .u8 n] (fun j v hj => by
  match j with
  | 0 => simp at hj; subst hj; simpa [Addr.add] using h
  | j + 1 => simp at hj)
 rw [run_convert_bytes_string _ _ _ _ _ _ _ Tryz.underlying22 Tryz.underlying5 Tryz.underlying9, run_bytesToString _ _ 1 1 [n] hl]
 rfl
theorem run_conv_d (W : World) (n : Int) (g : Nat) (h : g = W.heap.size) : (convert 22 9 (.slice (some ⟨g, 0, none⟩) 1 1)).run Tryz.prog (W.alloc (.cells #[.int .u8 n] 5)).drew = .ok (.string (oneB n)) (W.alloc (.cells #[.int .u8 n] 5)).drew := run_conv_old _ n g (by subst h; simp [go_sem])
theorem run_conv_dx (W x : World) (n : Int) (g : Nat) (h : g = W.heap.size) : (convert 22 9 (.slice (some ⟨g, 0, none⟩) 1 1)).run Tryz.prog (ext (W.alloc (.cells #[.int .u8 n] 5)).drew x) = .ok (.string (oneB n)) (ext (W.alloc (.cells #[.int .u8 n] 5)).drew x) := run_conv_old _ n g (by subst h; simp [go_sem])
attribute [go_sem] run_conv_d run_conv_dx
theorem l1Num_fuel (k : Nat) : ∀ (n : Int) (w : World), 0 <= n -> n.toNat < 10 ^ (k + 1) -> n <= 9223372036854775807 -> k <= 30 ->
  Calls Tryz.prog 81 #[.int .i64 n] w fun e w' => e = .returned (.string (numS n)) /\ ∃ x, w' = ext w x := by
 induction k with
 | zero =>
  intro n w h0 h1 h2 h3;have h9 : n < 10 := Om;have HN := Lib.hid (numS_small h0 h9);go_enter Tryz.func81, Tryz.ntmps81;go_wp2;go_ret;exact ⟨ret_str (by rw [HN.out]), ext_ex bL⟩
 | succ k ih =>
  intro n w h0 h1 h2 h3;by_cases h9 : n < 10
  ·
   have HN := Lib.hid (numS_small h0 h9);clear ih h1;go_enter Tryz.func81, Tryz.ntmps81;go_wp2;go_ret;exact ⟨ret_str (by rw [HN.out]), ext_ex bL⟩
  ·
   have HN := Lib.hid (numS_step (n := n) Om);have hk : (n / 10).toNat < 10 ^ (k + 1) := by rw [Nat.pow_succ] at h1; omega
   have hs := numS_size k (n / 10) Om hk;have ho : (oneB (48 + n % 10)).size <= 1 := by simp [oneB, ByteArray.size_push]
   have ih' := fun w => ih (n / 10) w Om hk Om Om
   have e1 : n.tdiv 10 = n / 10 := Int.tdiv_eq_ediv_of_nonneg h0;have e2 : n.tmod 10 = n % 10 := Int.tmod_eq_emod_of_nonneg h0;have e3 : IntKind.i64.wrap (n / 10) = n / 10 := IntWalk.i64_in _ Om;have e4 : IntKind.i64.wrap (48 + n % 10) = 48 + n % 10 := IntWalk.i64_in _ Om;have e5 : IntKind.u8.wrap (48 + n % 10) = 48 + n % 10 := IntWalk.u8_in _ Om;clear ih h1 hk;go_enter Tryz.func81, Tryz.ntmps81;go_wp2
   go_region_with (first | (go_at_call 81; ((with_reducible refine (ih' _).mono ?_); rintro e w' ⟨rfl, x, rfl⟩)))
   all_goals
    go_wp2;go_ret;exact ⟨ret_str (by rw [HN.out]), ext_ex bL⟩
def Tab (w : World) : Prop := Lib.TabIs Tryz.prog w "internal/strconv.uint64pow10" .u64 Lib.pow10Tab
def laid3 : List (String × DataW Unit) := [("math/bits.deBruijn32tab", Rows.laid_math_bits_deBruijn32tab), ("math/bits.deBruijn64tab", Rows.laid_math_bits_deBruijn64tab), ("internal/strconv.uint64pow10", Rows.laid_internal_strconv_uint64pow10)]
theorem gPow : Tryz.prog.globalNamed "internal/strconv.uint64pow10" = some 4 := by kernel_rfl
theorem gPowType : (Tryz.prog.globals[4]?).map (·.type) = some 214 := by kernel_rfl
theorem cellsPow : Tryz.prog.cellsOf 214 = 20 := by kernel_rfl
theorem cellsU64 : Tryz.prog.cellsOf 68 = 1 := by kernel_rfl
theorem laidVars_tail {P : Program} {x : String × DataW Unit} {r : List (String × DataW Unit)} (h : laidMet P (x :: r) W) : laidMet P r W := by
 obtain ⟨ps, hv, hn, hc⟩ := h;obtain ⟨g, t, cs, fuel, p, q, h1, h2, h3, h4, h5, rfl⟩ := hv;exact ⟨q, h5, (List.nodup_append.1 hn).2.1, fun b off hb => hc b off (List.mem_append_right _ hb)⟩
theorem Tab.below {w w' : World} (h : Tab w) (hb : Below w.heap.size w w') : Tab w' := by
 have hlt : 4 < w.heap.size := by
  have h1 := h.cell gPow 0 (by decide);exact World.block_lt_of_cell? w _ h1
 unfold Tab Lib.TabIs at *;rw [<- h];simp only [World.var?, gPow, Option.bind_some, Option.bind_eq_bind, hb.block 4 hlt]
def cells32 : Array Value := #[0, 1, 28, 2, 29, 14, 24, 3, 30, 22, 20, 15, 25, 17, 4, 8, 31, 27, 13, 23, 21, 19, 16, 7, 26, 12, 18, 6, 11, 5, 10, 9].map (Value.int .u8)
def cells64 : Array Value := #[0, 1, 56, 2, 57, 49, 28, 3, 61, 58, 42, 50, 38, 29, 17, 4, 62, 47, 59, 36, 45, 43, 51, 22, 53, 39, 33, 30, 24, 18, 12, 5, 63, 55, 48, 27, 60, 41, 37, 16, 46, 35, 44, 21, 52, 32, 23, 11, 54, 26, 40, 15, 34, 20, 31, 10, 25, 14, 19, 9, 13, 8, 7, 6].map (Value.int .u8)
def cells20 : Array Value := (Lib.pow10Tab.map (Value.int .u64)).toArray
noncomputable def laidWorld (os : Os) : World :=
 { World.holding Tryz.prog os ⟨#[], #[], []⟩ with heap := (((World.holding Tryz.prog os ⟨#[], #[], []⟩).heap.modify 4 (fun | .cells _ t frozen => .cells cells20 t frozen | o => o)).modify 5 (fun | .cells _ t frozen => .cells cells32 t frozen | o => o)).modify 6 (fun | .cells _ t frozen => .cells cells64 t frozen | o => o) }
theorem own : ownKnob Tryz.prog.godebug = none := by kernel_rfl
theorem itoa_any (n : Int) (w : World) (h0 : 0 <= n) (h1 : n <= 9223372036854775807) (hT : Tab w) :
  Calls Tryz.prog 112 #[.int .i64 n] w fun e w' => e = .returned (.string (numS n)) /\ ∃ x, w' = ext w x := by
 refine (Tryz.strconv_Itoa n Om h1 w hT).mono ?_;rintro e w' ⟨rfl, k, os, rfl⟩;refine ⟨?_, ext_ex (Lib.below_grow w.heap.size w (Nat.le_refl _) k os)⟩;unfold numS Lib.itoa;rw [if_neg Om]
theorem itoa_small (n : Int) (w : World) (h0 : 0 <= n) (h1 : n < 100) :
  Calls Tryz.prog 112 #[.int .i64 n] w fun e w' => e = .returned (.string (numS n)) /\ w = w' := by
 obtain ⟨i, rfl⟩ : ∃ i : Nat, n = i := ⟨n.toNat, Om⟩;refine (Tryz.strconv_Itoa_small i Om w).mono ?_;rintro e w' ⟨rfl, rfl⟩;exact ⟨by unfold numS; rw [Int.toNat_natCast], rfl⟩
def Fit (a : BA) : Prop := a.size <= 1000000
theorem ft {a : ByteArray} (h : Fit a := by unfold Fit; simp only [ByteArray.size_append]; omega) : Fit a := h
theorem run_add_fit {P : Program} (w : World) (a b : BA) (h : Fit (a ++ b)) : (Op.stringOp .add a b).run P w = .ok (.string (a ++ b)) w := run_string_add_sum w a b (by unfold Fit at h; rw [ByteArray.size_append] at h; omega)
attribute [go_sem high] run_add_fit
def poP (n : Int) : ByteArray := numS (n / 100) ++ ⟨#[46]⟩ ++ numS (n / 10 % 10) ++ numS (n % 10)
def poS (n : Int) : ByteArray := if n < 0 then ⟨#[45]⟩ ++ poP (-n) else poP n
theorem poP_size (h0 : 0 <= n) (h1 : n <= 1000000000) : (poP n).size <= 12 := by
 have a := numS_size 7 (n / 100) Om Om;have b := numS_size 0 (n / 10 % 10) Om Om;have c := numS_size 0 (n % 10) Om Om;unfold poP;simp only [ByteArray.size_append];have : ByteArray.size ⟨#[46]⟩ = 1 := rfl;omega
theorem poS_size (h0 : -1000000000 <= n) (h1 : n <= 1000000000) : (poS n).size <= 13 := by
 unfold poS
 split
 ·
  have := poP_size (n := -n) Om Om;rw [ByteArray.size_append];have : ByteArray.size ⟨#[45]⟩ = 1 := rfl;omega
 ·
  have := poP_size (n := n) Om Om;omega
theorem poText_pos (n : Int) (w : World) (h0 : 0 <= n) (h1 : n <= 1000000000) :
  Calls Tryz.prog 119 #[.int .i64 n] w fun e w' => e = .returned (.string (poP n)) /\ ∃ x, w' = ext w x := by
 have t1 : n.tdiv 100 = n / 100 := Int.tdiv_eq_ediv_of_nonneg h0;have t2 : IntKind.i64.wrap (n / 100) = n / 100 := IntWalk.i64_in _ Om;have t3 : n.tdiv 10 = n / 10 := Int.tdiv_eq_ediv_of_nonneg h0;have t4 : IntKind.i64.wrap (n / 10) = n / 10 := IntWalk.i64_in _ Om;have t5 : (n / 10).tmod 10 = n / 10 % 10 := Int.tmod_eq_emod_of_nonneg Om;have t6 : n.tmod 10 = n % 10 := Int.tmod_eq_emod_of_nonneg h0;have t7 : IntKind.i64.wrap (n / 10 % 10) = n / 10 % 10 := IntWalk.i64_in _ Om;have t8 : IntKind.i64.wrap (n % 10) = n % 10 := IntWalk.i64_in _ Om;have z1 := numS_size 7 (n / 100) Om Om;have z2 := numS_size 0 (n / 10 % 10) Om Om;have z3 := numS_size 0 (n % 10) Om Om;have zp : ByteArray.size ⟨#[46]⟩ = 1 := rfl;have zm : ByteArray.size ⟨#[45]⟩ = 1 := rfl;have f1 : Fit (numS (n / 100) ++ ⟨#[46]⟩) := ft;have f2 : Fit (numS (n / 100) ++ ⟨#[46]⟩ ++ numS (n / 10 % 10)) := ft;have f3 : Fit (numS (n / 100) ++ ⟨#[46]⟩ ++ numS (n / 10 % 10) ++ numS (n % 10)) := ft;have hn : ¬ n < 0 := Om;have HV : Hid (poP n = numS (n / 100) ++ ⟨#[46]⟩ ++ numS (n / 10 % 10) ++ numS (n % 10)) := rfl;have c1 := fun W => l1Num_fuel 7 (n / 100) W Om Om Om Om
 have c2 := fun W => l1Num_fuel 0 (n / 10 % 10) W Om Om Om Om
 have c3 := fun W => l1Num_fuel 0 (n % 10) W Om Om Om Om
 clear z1 z2 z3 zp zm;go_enter Tryz.func119, Tryz.ntmps119;go_wp2_with (first | (go_at_call 81; ((with_reducible refine ex (c1 _) ?_); intro x1)) | (go_at_call 81; ((with_reducible refine ex (c2 _) ?_); intro x2)) | (go_at_call 81; ((with_reducible refine ex (c3 _) ?_); intro x3)))
 go_ret;exact ⟨ret_str (by rw [HV.out]), ext_ex bL⟩
theorem poText_any (n : Int) (w : World) (h0 : -1000000000 <= n) (h1 : n <= 1000000000) :
  Calls Tryz.prog 119 #[.int .i64 n] w fun e w' => e = .returned (.string (poS n)) /\ ∃ x, w' = ext w x := by
 by_cases hn : n < 0
 ·
  have HV : Hid (poS n = ⟨#[45]⟩ ++ poP (-n)) := Lib.hid (if_pos hn);have hz := poP_size (n := -n) Om Om;have zm : ByteArray.size ⟨#[45]⟩ = 1 := rfl;have f1 : Fit ((⟨#[45]⟩ : BA) ++ poP (-n)) := ft;have e1 : IntKind.i64.wrap (-n) = -n := IntWalk.i64_in _ Om;clear hz zm;go_enter Tryz.func119, Tryz.ntmps119;go_wp2_with ((go_at_call 119; ((with_reducible refine ex (poText_pos _ _ Om Om) ?_); intro x1)))
  go_ret;exact ⟨ret_str (by rw [HV.out]), ext_ex bL⟩
 ·
  rw [show poS n = poP n from if_neg hn];exact poText_pos n w Om h1
theorem pointsText_pos (n : Int) (w : World) (h0 : 0 <= n) (h1 : n <= 1000000000) (hT : Tab w) :
  Calls Tryz.prog 164 #[.int .i64 n] w fun e w' => e = .returned (.string (poP n)) /\ ∃ x, w' = ext w x := by
 have t1 : n.tdiv 100 = n / 100 := Int.tdiv_eq_ediv_of_nonneg h0;have t2 : IntKind.i64.wrap (n / 100) = n / 100 := IntWalk.i64_in _ Om;have t3 : n.tdiv 10 = n / 10 := Int.tdiv_eq_ediv_of_nonneg h0;have t4 : IntKind.i64.wrap (n / 10) = n / 10 := IntWalk.i64_in _ Om;have t5 : (n / 10).tmod 10 = n / 10 % 10 := Int.tmod_eq_emod_of_nonneg Om;have t6 : n.tmod 10 = n % 10 := Int.tmod_eq_emod_of_nonneg h0;have t7 : IntKind.i64.wrap (n / 10 % 10) = n / 10 % 10 := IntWalk.i64_in _ Om;have t8 : IntKind.i64.wrap (n % 10) = n % 10 := IntWalk.i64_in _ Om;have z1 := numS_size 7 (n / 100) Om Om;have z2 := numS_size 0 (n / 10 % 10) Om Om;have z3 := numS_size 0 (n % 10) Om Om;have zp : ByteArray.size ⟨#[46]⟩ = 1 := rfl;have zm : ByteArray.size ⟨#[45]⟩ = 1 := rfl;have z0 : ByteArray.size ⟨#[]⟩ = 0 := rfl;have f1 : Fit ((⟨#[]⟩ : BA) ++ numS (n / 100) ++ ⟨#[46]⟩) := ft;have f2 : Fit ((⟨#[]⟩ : BA) ++ numS (n / 100) ++ ⟨#[46]⟩ ++ numS (n / 10 % 10)) := ft;have f3 : Fit ((⟨#[]⟩ : BA) ++ numS (n / 100) ++ ⟨#[46]⟩ ++ numS (n / 10 % 10) ++ numS (n % 10)) := ft;have f0 : Fit ((⟨#[]⟩ : BA) ++ numS (n / 100)) := ft;have hn : ¬ n < 0 := Om;have HV : Hid (poP n = (⟨#[]⟩ : BA) ++ numS (n / 100) ++ ⟨#[46]⟩ ++ numS (n / 10 % 10) ++ numS (n % 10)) := by unfold Hid poP; rw [show (⟨#[]⟩ : BA) ++ numS (n / 100) = numS (n / 100) from ByteArray.empty_append]
 have c1 := fun W h => itoa_any (n / 100) W Om Om (hT.below h)
 have c2 := fun W => itoa_small (n / 10 % 10) W Om Om
 have c3 := fun W => itoa_small (n % 10) W Om Om
 clear z0 z1 z2 z3 zp zm hT;go_enter Tryz.func164, Tryz.ntmps164;go_wp2_with (first | (go_at_call 112; ((with_reducible refine ex (c1 _ bL) ?_); intro x1)) | (go_at_call 112; (with_reducible refine ep (c2 _) ?_)) | (go_at_call 112; (with_reducible refine ep (c3 _) ?_)))
 go_ret;exact ⟨ret_str (by rw [HV.out]), ext_ex bL⟩
theorem pointsText_neg (n : Int) (w : World) (h0 : 0 <= n) (hp : 0 < n) (h1 : n <= 1000000000) (hT : Tab w) (k : Int) (hk : k = -n) :
  Calls Tryz.prog 164 #[.int .i64 k] w fun e w' => e = .returned (.string (⟨#[45]⟩ ++ poP n)) /\ ∃ x, w' = ext w x := by
 have t1 : n.tdiv 100 = n / 100 := Int.tdiv_eq_ediv_of_nonneg h0;have t2 : IntKind.i64.wrap (n / 100) = n / 100 := IntWalk.i64_in _ Om;have t3 : n.tdiv 10 = n / 10 := Int.tdiv_eq_ediv_of_nonneg h0;have t4 : IntKind.i64.wrap (n / 10) = n / 10 := IntWalk.i64_in _ Om;have t5 : (n / 10).tmod 10 = n / 10 % 10 := Int.tmod_eq_emod_of_nonneg Om;have t6 : n.tmod 10 = n % 10 := Int.tmod_eq_emod_of_nonneg h0;have t7 : IntKind.i64.wrap (n / 10 % 10) = n / 10 % 10 := IntWalk.i64_in _ Om;have t8 : IntKind.i64.wrap (n % 10) = n % 10 := IntWalk.i64_in _ Om;have z1 := numS_size 7 (n / 100) Om Om;have z2 := numS_size 0 (n / 10 % 10) Om Om;have z3 := numS_size 0 (n % 10) Om Om;have zp : ByteArray.size ⟨#[46]⟩ = 1 := rfl;have zm : ByteArray.size ⟨#[45]⟩ = 1 := rfl;have f1 : Fit ((⟨#[45]⟩ : BA) ++ numS (n / 100) ++ ⟨#[46]⟩) := ft;have f2 : Fit ((⟨#[45]⟩ : BA) ++ numS (n / 100) ++ ⟨#[46]⟩ ++ numS (n / 10 % 10)) := ft;have f3 : Fit ((⟨#[45]⟩ : BA) ++ numS (n / 100) ++ ⟨#[46]⟩ ++ numS (n / 10 % 10) ++ numS (n % 10)) := ft;have f0 : Fit ((⟨#[45]⟩ : BA) ++ numS (n / 100)) := ft;have hn : k < 0 := Om;have hk2 : IntKind.i64.wrap (-k) = n := by rw [IntWalk.i64_in _ Om]; omega
 have hk3 : -k = n := Om;clear hk;have HV : Hid (⟨#[45]⟩ ++ poP n = (⟨#[45]⟩ : BA) ++ numS (n / 100) ++ ⟨#[46]⟩ ++ numS (n / 10 % 10) ++ numS (n % 10)) := by unfold Hid poP; simp only [ByteArray.append_assoc]
 have c1 := fun W h => itoa_any (n / 100) W Om Om (hT.below h)
 have c2 := fun W => itoa_small (n / 10 % 10) W Om Om
 have c3 := fun W => itoa_small (n % 10) W Om Om
 clear z1 z2 z3 zp zm hT;go_enter Tryz.func164, Tryz.ntmps164;go_wp2_with (first | (go_at_call 112; ((with_reducible refine ex (c1 _ bL) ?_); intro x1)) | (go_at_call 112; (with_reducible refine ep (c2 _) ?_)) | (go_at_call 112; (with_reducible refine ep (c3 _) ?_)))
 go_ret;exact ⟨ret_str (by rw [HV.out]), ext_ex bL⟩
theorem pointsText_any (n : Int) (w : World) (h0 : -1000000000 <= n) (h1 : n <= 1000000000) (hT : Tab w) :
  Calls Tryz.prog 164 #[.int .i64 n] w fun e w' => e = .returned (.string (poS n)) /\ ∃ x, w' = ext w x := by
 by_cases hn : n < 0
 ·
  rw [show poS n = ⟨#[45]⟩ ++ poP (-n) from if_pos hn];exact pointsText_neg (-n) w Om Om Om hT n Om
 ·
  rw [show poS n = poP n from if_neg hn];exact pointsText_pos n w Om h1 hT
def joinTo (sep : BA) (f : Nat -> ByteArray) : Nat -> ByteArray
 | 0 => ByteArray.empty
 | k + 1 => (if 0 < k then joinTo sep f k ++ sep else joinTo sep f k) ++ f k
def wordsF (f : Nat -> ByteArray) (k : Nat) : List BA := (List.range k).map f
theorem wordsF_succ (f : Nat -> ByteArray) (k : Nat) : wordsF f (k + 1) = wordsF f k ++ [f k] := by simp [wordsF, List.range_succ]
theorem wordsF_len (f : Nat -> ByteArray) (k : Nat) : (wordsF f k).length = k := by simp [wordsF]
theorem joinTail_snoc' (sep : List UInt8) (r : List (List UInt8)) (x : List UInt8) : Lib.joinTail sep (r ++ [x]) = Lib.joinTail sep r ++ (sep ++ x) := by simp [Lib.joinTail]
theorem joinTo_list (sep : BA) (f : Nat -> ByteArray) : ∀ k, (joinTo sep f (k + 1)).data.toList = Lib.join ((wordsF f (k + 1)).map (·.data.toList)) sep.data.toList
 | 0 => by simp [joinTo, wordsF, Lib.join_one]
 | k + 1 => by
  have ih := joinTo_list sep f k;have e : (wordsF f (k + 1)).map (·.data.toList) = (f 0).data.toList :: ((List.range k).map fun i => (f (i + 1)).data.toList) := by
   simp [wordsF, List.range_succ_eq_map]
  have e2 : (wordsF f (k + 1 + 1)).map (·.data.toList) = (f 0).data.toList :: (((List.range k).map fun i => (f (i + 1)).data.toList) ++ [(f (k + 1)).data.toList]) := by
   rw [wordsF_succ, List.map_append, e]; rfl
  rw [joinTo, if_pos Om, e2, Lib.join_cons, joinTail_snoc', ByteArray.data_append, Array.toList_append, ByteArray.data_append, Array.toList_append, ih, e, Lib.join_cons];simp only [List.append_assoc]
theorem joinTo_join (sep : BA) (f : Nat -> ByteArray) (k : Nat) : (⟨(Lib.join ((wordsF f (k + 1)).map (·.data.toList)) sep.data.toList).toArray⟩ : BA) = joinTo sep f (k + 1) := by
 rw [<- joinTo_list]
theorem joinTo_size {sep : BA} {f : Nat -> ByteArray} {s b : Nat} (hs : sep.size <= s) : ∀ k, (∀ j, j < k -> (f j).size <= b) -> (joinTo sep f k).size <= (b + s) * k
 | 0, _ => by simp [joinTo]
 | k + 1, h => by
  have ih := joinTo_size hs k (fun j hj => h j Om);have h2 := h k Om;have e : (b + s) * (k + 1) = (b + s) * k + (b + s) := Nat.mul_succ _ _;rw [joinTo, ByteArray.size_append, e]
  split
  ·
   rw [ByteArray.size_append]; omega
  ·
   omega
theorem joinTo_1 (sep : BA) (f : Nat -> ByteArray) : joinTo sep f 1 = f 0 := by simp [joinTo]
theorem joinW_any (W : World) (base : Nat) (A : OA) (n c : Nat) (f : Nat -> ByteArray) (sep : BA) (ho : OwT base W A n c (wordsF f n)) (h0 : 0 < n) (hz : (joinTo sep f n).size <= 1000000) (hn : n <= 1000000) :
  Calls Tryz.prog 91 #[.slice A n c, .string sep] W fun e w' => e = .returned (.string (joinTo sep f n)) /\ ∃ x, w' = ext W x := by
 obtain ⟨g, rfl, hg1, hg2⟩ := ho.form_ h0;obtain ⟨k, rfl⟩ : ∃ k, n = k + 1 := ⟨n - 1, Om⟩;have hsz : (Lib.join ((wordsF f (k + 1)).map (·.data.toList)) sep.data.toList).length <= 140737488355328 := by
  rw [<- joinTo_list];have e : (joinTo sep f (k + 1)).data.toList.length = (joinTo sep f (k + 1)).size := by simp only [ByteArray.size, Array.length_toList]
  omega
 have hcl : ∀ (j : Nat) x, (wordsF f (k + 1))[j]? = some x -> W.cell? ⟨g, 0 + j, none⟩ = some (.string x) := fun j x hx => by
  have hj := (List.getElem?_eq_some_iff.1 hx).1;rw [wordsF_len] at hj;have := ho.cell_ j hj;rw [hx, Option.getD_some] at this;rw [Nat.zero_add];exact this
 have hj := Tryz.strings_Join g 0 c (wordsF f (k + 1)) sep W hcl hg2 (by rw [wordsF_len]; omega) (by rw [wordsF_len]; exact ho.cap_.1) hsz;rw [wordsF_len, joinTo_join] at hj;exact hj.mono fun e w' h => ⟨h.1, ext_ex h.2⟩
def signS (m : Int) : ByteArray := if m = 1 then ⟨#[60]⟩ else if m = 2 then ⟨#[101]⟩ else if m = 3 then ⟨#[42]⟩ else ⟨#[]⟩
theorem signS_size (m : Int) : (signS m).size <= 1 := by
 unfold signS
 split
 ·
  exact Nat.le_refl 1
 ·
  split
  ·
   exact Nat.le_refl 1
  ·
   split
   ·
    exact Nat.le_refl 1
   ·
    exact Nat.zero_le 1
def wordS (it : It) (k : Nat) : ByteArray := nmAt it k ++ signS (mkAt it k)
def itemS (it : It) : ByteArray := if it.2.2 then joinTo ⟨#[43]⟩ (wordS it) it.1.length ++ ⟨#[32, 120]⟩ else joinTo ⟨#[43]⟩ (wordS it) it.1.length
def ItT (it : It) : Prop := ∀ j, j < it.1.length -> (nmAt it j).size <= 5 /\ 0 <= mkAt it j /\ mkAt it j <= 3
theorem wordS_size (h : ItT it) (j : Nat) (hj : j < it.1.length) : (wordS it j).size <= 6 := by
 have := (h j hj).1;have := signS_size (mkAt it j);unfold wordS;rw [ByteArray.size_append]; omega
theorem joinS_size (h : ItT it) (h3 : it.1.length <= 3) (k : Nat) (hk : k <= it.1.length) : (joinTo ⟨#[43]⟩ (wordS it) k).size <= 21 := by
 have := joinTo_size (sep := ⟨#[43]⟩) (f := wordS it) (s := 1) (b := 6) (Nat.le_refl 1) k (fun j hj => wordS_size h j Om);omega
theorem itemS_size (h : ItT it) (h3 : it.1.length <= 3) : (itemS it).size <= 23 := by
 have := joinS_size h h3 it.1.length (Nat.le_refl _);unfold itemS
 split
 ·
  rw [ByteArray.size_append]; have : ByteArray.size ⟨#[32, 120]⟩ = 2 := rfl;omega
 ·
  omega
def signsL : List BA := [⟨#[]⟩, ⟨#[60]⟩, ⟨#[101]⟩, ⟨#[42]⟩]
theorem signsL_at (m : Int) (h0 : 0 <= m) (h3 : m <= 3) : signsL[m.toNat]?.getD ByteArray.empty = signS m := by
 rcases (by omega : m = 0 ∨ m = 1 ∨ m = 2 ∨ m = 3) with rfl | rfl | rfl | rfl <;> rfl
def Sgn (w : World) : Prop := 0 < w.heap.size /\ ∀ j : Nat, j < 4 -> w.cell? ⟨0, j, none⟩ = some (.string (signsL[j]?.getD ByteArray.empty))
theorem Sgn.below {w w' : World} (h : Sgn w) (hb : Below w.heap.size w w') : Sgn w' := ⟨Nat.lt_of_lt_of_le h.1 hb.size, fun j hj => (hb.cell (p := ⟨0, j, none⟩) h.1).trans (h.2 j hj)⟩
theorem itSigns_any (w : World) : Calls Tryz.prog 148 #[] w (RetT w signsL) := by
 go_enter Tryz.func148, Tryz.ntmps148;go_wp2;go_ret;exact RetT.mk_ (OwT.lit_ (Below.refl w.heap.size w) signsL (by simp [signsL, maxLen]) _ rfl) (Nat.le_refl _) bL
theorem itText_any (w : World) (NA MA : OA) (nn nc mn mc : Nat) (it : It) (hN : RdT w NA nn it.1) (hM : RdI w MA mn it.2.1) (h1 : 1 <= nn) (h3 : nn <= 3) (hl : it.2.1.length = it.1.length) (hT : ItT it) :
  Calls Tryz.prog 120 #[.agg #[.slice NA nn nc, .slice MA mn mc, .bool it.2.2]] w fun e w' => e = .returned (.string (itemS it)) /\ ∃ y, w' = ext w y := by
 have Hn := Lib.hid hN.len;have Hm := Lib.hid hM.len;rw [Hn.out] at hl;rw [Hm.out] at hl;obtain rfl := hl.symm;have hz := joinS_size hT (by rw [Hn.out]; exact h3);rw [Hn.out] at hz;have hTk : ∀ j, j < nn -> (nmAt it j).size <= 5 /\ 0 <= mkAt it j /\ mkAt it j <= 3 := fun j hj => hT j (by rw [Hn.out]; exact hj)
 have HV : Hid (itemS it = if it.2.2 then joinTo ⟨#[43]⟩ (wordS it) nn ++ ⟨#[32, 120]⟩ else joinTo ⟨#[43]⟩ (wordS it) nn) := by unfold Hid itemS; rw [Hn.out]
 obtain ⟨late, hlate⟩ : ∃ l, it.2.2 = l := ⟨_, rfl⟩;rw [hlate] at HV ⊢;clear hlate hT;go_enter Tryz.func120, Tryz.ntmps120;go_wp2
 go_loopw [3, 4, 5, 9] (fun t _ _ i wr => ∃ (k : Nat) (y : World), k <= nn /\ i = .int .i64 k /\ t = .string (joinTo ⟨#[43]⟩ (wordS it) k) /\ wr = ext (w.alloc (.cells #[.slice NA nn nc, .slice MA nn mc, .bool late] 61)) y) (fun _ _ _ i _ => nn - (intOf i).toNat)
 case atStart => exact ⟨0, _, Om, rfl, rfl, ext_self _⟩
 case round =>
  obtain ⟨k, y, hk, rfl, rfl, rfl⟩ := hrel;by_cases hlt : k < nn
  ·
   obtain ⟨bn, on, rfl, hbn, hcn⟩ := hN.open_ Om;obtain ⟨bm, om, rfl, hbm, hcm⟩ := hM.open_ Om;have hcnk : w.cell? ⟨bn, on + k, none⟩ = some (.string (nmAt it k)) := hcn k hlt;have hcmk : w.cell? ⟨bm, om + k, none⟩ = some (.int .i64 (mkAt it k)) := by have := hcm k Om; rwa [List.getD_eq_getElem?_getD] at this
   obtain ⟨hs5, hm0, hm3⟩ := hTk k hlt;have hsg := signsL_at (mkAt it k) hm0 hm3;obtain ⟨m, hm⟩ : ∃ m : Nat, mkAt it k = m := ⟨(mkAt it k).toNat, Om⟩;have hwk : Hid (wordS it k = nmAt it k ++ signS m) := by unfold Hid wordS; rw [hm]
   rw [hm] at hcmk hsg hm3;rw [Int.toNat_natCast] at hsg;have hm4 : m < 4 := Om;have hm4I : (m : Int) < 4 := Om;have HJ : Hid (joinTo ⟨#[43]⟩ (wordS it) (k + 1) = (if 0 < k then joinTo ⟨#[43]⟩ (wordS it) k ++ ⟨#[43]⟩ else joinTo ⟨#[43]⟩ (wordS it) k) ++ (nmAt it k ++ signS m)) := by unfold Hid; rw [joinTo, hwk.out]
   have hz1 := hz k hk;have hgz := signS_size m;clear hcn hcm hTk hz hm hm0 hm3;generalize joinTo ⟨#[43]⟩ (wordS it) k = s at *;generalize nmAt it k = nm at *;generalize signS (m : Int) = sg at *;have zp : ByteArray.size ⟨#[43]⟩ = 1 := rfl;have f1 : Fit (s ++ (⟨#[43]⟩ : BA)) := ft;have f2 : Fit (nm ++ sg) := ft;have f3 : Fit (s ++ (nm ++ sg)) := ft;have f4 : Fit (s ++ (⟨#[43]⟩ : BA) ++ (nm ++ sg)) := ft;clear zp hz1 hgz hs5;have hS := fun W h => kS (R := (w.alloc (.cells #[.slice (some ⟨bn, on, none⟩) nn nc, .slice (some ⟨bm, om, none⟩) nn mc, .bool late] 61))) (W := W) (l := [(⟨w.heap.size, 0, none⟩, .slice (some ⟨bn, on, none⟩) nn nc), (⟨w.heap.size, 1, none⟩, .slice (some ⟨bm, om, none⟩) nn mc), (⟨w.heap.size, 2, none⟩, .bool late), (⟨bm, om + k, none⟩, .int .i64 (m : Nat))]) h
   have fn1 := ((by repeat (first | exact Below.refl _ _ | assumption | refine bExt ?_ _ | refine bAlloc ?_ _ | refine bDrewN ?_ _ | refine bDrew ?_ | refine bSet ?_ (by first | exact Nat.le_refl _ | omega | (simp; done) | (simp; omega)) _) : Below w.heap.size w (ext (w.alloc (.cells #[.slice (some ⟨bn, on, none⟩) nn nc, .slice (some ⟨bm, om, none⟩) nn mc, .bool late] 61)) y)).cell (p := ⟨bn, on + k, none⟩) hbn).trans hcnk;by_cases hk0 : 0 < k
   ·
    have hk0I : (0 : Int) < k := Om;go_wp2
    go_region_law (first | (go_simp; go_at_call 148; (with_reducible refine (itSigns_any _).mono ?_); rintro e w' ⟨A1, n1, c1, x1, rfl, rfl, o1⟩; obtain rfl : n1 = 4 := o1.len.symm; obtain ⟨g1, rfl, hg1, hg2⟩ := o1.form_ Om; have k1 := o1.cell_ m Om; rw [hsg] at k1))
    all_goals
     go_wp2;go_roundw
     case rel => exact ⟨k + 1, _, Om, by go_num, by rw [HJ.out, if_pos hk0], (ext_ex bL).choose_spec⟩
     case measure => simp [intOf]; omega
   ·
    have hk0I : ¬ (0 : Int) < k := Om;go_wp2
    go_region_law (first | (go_simp; go_at_call 148; (with_reducible refine (itSigns_any _).mono ?_); rintro e w' ⟨A1, n1, c1, x1, rfl, rfl, o1⟩; obtain rfl : n1 = 4 := o1.len.symm; obtain ⟨g1, rfl, hg1, hg2⟩ := o1.form_ Om; have k1 := o1.cell_ m Om; rw [hsg] at k1))
    all_goals
     go_wp2;go_roundw
     case rel => exact ⟨k + 1, _, Om, by go_num, by rw [HJ.out, if_neg hk0], (ext_ex bL).choose_spec⟩
     case measure => simp [intOf]; omega
  ·
   obtain rfl : k = nn := Om;have hz1 := hz k hk;clear hz hTk;generalize joinTo ⟨#[43]⟩ (wordS it) k = s at *;have f1 : Fit (s ++ (⟨#[32, 120]⟩ : BA)) := by unfold Fit; simp only [ByteArray.size_append]; have : ByteArray.size ⟨#[32, 120]⟩ = 2 := rfl; omega
   cases late
   ·
    go_wp2;go_ret;exact ⟨ret_str (by rw [HV.out]; rfl), ext_ex bL⟩
   ·
    go_wp2;go_ret;exact ⟨ret_str (by rw [HV.out]; rfl), ext_ex bL⟩
theorem itemText_any (w : World) (NA MA : OA) (nn nc mn mc : Nat) (it : It) (hN : RdT w NA nn it.1) (hM : RdI w MA mn it.2.1) (h1 : 1 <= nn) (h3 : nn <= 3) (hl : it.2.1.length = it.1.length) (hT : ItT it) (hG : Sgn w) :
  Calls Tryz.prog 114 #[.agg #[.slice NA nn nc, .slice MA mn mc, .bool it.2.2]] w fun e w' => e = .returned (.string (itemS it)) /\ ∃ y, w' = ext w y := by
 have Hn := Lib.hid hN.len;have Hm := Lib.hid hM.len;rw [Hn.out] at hl;rw [Hm.out] at hl;obtain rfl := hl.symm;have hz := joinS_size hT (by rw [Hn.out]; exact h3);rw [Hn.out] at hz;have hTk : ∀ j, j < nn -> (nmAt it j).size <= 5 /\ 0 <= mkAt it j /\ mkAt it j <= 3 := fun j hj => hT j (by rw [Hn.out]; exact hj)
 have HV : Hid (itemS it = if it.2.2 then joinTo ⟨#[43]⟩ (wordS it) nn ++ ⟨#[32, 120]⟩ else joinTo ⟨#[43]⟩ (wordS it) nn) := by unfold Hid itemS; rw [Hn.out]
 obtain ⟨late, hlate⟩ : ∃ l, it.2.2 = l := ⟨_, rfl⟩;rw [hlate] at HV ⊢;clear hlate hT;go_enter Tryz.func114, Tryz.ntmps114;go_wp2
 go_loopw [3, 4, 5, 11] (fun t _ _ i wr => ∃ (k : Nat) (D : OA) (dc : Nat) (y : World), k <= nn /\ i = .int .i64 k /\ t = .slice D k dc /\ wr = ext (w.alloc (.cells #[.slice NA nn nc, .slice MA nn mc, .bool late] 61)) y /\ OwT (w.alloc (.cells #[.slice NA nn nc, .slice MA nn mc, .bool late] 61)).heap.size (ext (w.alloc (.cells #[.slice NA nn nc, .slice MA nn mc, .bool late] 61)) y) D k dc (wordsF (wordS it) k)) (fun _ _ _ i _ => nn - (intOf i).toNat)
 case atStart =>
  obtain ⟨y, hy⟩ := ext_ex (show Below (w.alloc (.cells #[.slice NA nn nc, .slice MA nn mc, .bool late] 61)).heap.size (w.alloc (.cells #[.slice NA nn nc, .slice MA nn mc, .bool late] 61)) ((w.alloc (.cells #[.slice NA nn nc, .slice MA nn mc, .bool late] 61)).alloc (.cells #[] 9)) from bL);have o0 := OwT.lit_ (Below.refl _ (w.alloc (.cells #[.slice NA nn nc, .slice MA nn mc, .bool late] 61))) [] (by simp [maxLen]) #[] rfl;rw [hy] at o0;exact ⟨0, _, 0, y, Om, rfl, rfl, hy, by simpa [go_sem, wordsF] using o0⟩
 case round =>
  obtain ⟨k, D, dc, y, hk, rfl, rfl, rfl, ho⟩ := hrel;by_cases hlt : k < nn
  ·
   obtain ⟨bn, on, rfl, hbn, hcn⟩ := hN.open_ Om;obtain ⟨bm, om, rfl, hbm, hcm⟩ := hM.open_ Om;have hcnk : w.cell? ⟨bn, on + k, none⟩ = some (.string (nmAt it k)) := hcn k hlt;have hcmk : w.cell? ⟨bm, om + k, none⟩ = some (.int .i64 (mkAt it k)) := by have := hcm k Om; rwa [List.getD_eq_getElem?_getD] at this
   obtain ⟨hs5, hm0, hm3⟩ := hTk k hlt;have hsg := signsL_at (mkAt it k) hm0 hm3;obtain ⟨m, hm⟩ : ∃ m : Nat, mkAt it k = m := ⟨(mkAt it k).toNat, Om⟩;have hwk : Hid (wordS it k = nmAt it k ++ signS m) := by unfold Hid wordS; rw [hm]
   rw [hm] at hcmk hsg hm3;rw [Int.toNat_natCast] at hsg;have hm4 : m < 4 := Om;have hm4I : (m : Int) < 4 := Om;have HW := Lib.hid (wordsF_succ (wordS it) k);have HW : Hid (wordsF (wordS it) (k + 1) = wordsF (wordS it) k ++ [nmAt it k ++ signS m]) := by unfold Hid; rw [HW.out, hwk.out]
   have hgz := signS_size m;have hkb : k <= 1099511627776 := Om;have hgm := hG.2 m hm4;rw [hsg] at hgm;have hgl := hG.1;clear hcn hcm hTk hz hm hm0 hm3 hG hsg hwk;generalize wordsF (wordS it) k = ws at *;generalize nmAt it k = nm at *;generalize signS (m : Int) = sg at *;have f2 : Fit (nm ++ sg) := ft;clear hgz hs5;have fn1 := ((by repeat (first | exact Below.refl _ _ | assumption | refine bExt ?_ _ | refine bAlloc ?_ _ | refine bDrewN ?_ _ | refine bDrew ?_ | refine bSet ?_ (by first | exact Nat.le_refl _ | omega | (simp; done) | (simp; omega)) _) : Below w.heap.size w (ext (w.alloc (.cells #[.slice (some ⟨bn, on, none⟩) nn nc, .slice (some ⟨bm, om, none⟩) nn mc, .bool late] 61)) y)).cell (p := ⟨bn, on + k, none⟩) hbn).trans hcnk;have fm1 := ((by repeat (first | exact Below.refl _ _ | assumption | refine bExt ?_ _ | refine bAlloc ?_ _ | refine bDrewN ?_ _ | refine bDrew ?_ | refine bSet ?_ (by first | exact Nat.le_refl _ | omega | (simp; done) | (simp; omega)) _) : Below w.heap.size w (ext (w.alloc (.cells #[.slice (some ⟨bn, on, none⟩) nn nc, .slice (some ⟨bm, om, none⟩) nn mc, .bool late] 61)) y)).cell (p := ⟨bm, om + k, none⟩) hbm).trans hcmk;have fg1 := ((by repeat (first | exact Below.refl _ _ | assumption | refine bExt ?_ _ | refine bAlloc ?_ _ | refine bDrewN ?_ _ | refine bDrew ?_ | refine bSet ?_ (by first | exact Nat.le_refl _ | omega | (simp; done) | (simp; omega)) _) : Below w.heap.size w (ext (w.alloc (.cells #[.slice (some ⟨bn, on, none⟩) nn nc, .slice (some ⟨bm, om, none⟩) nn mc, .bool late] 61)) y)).cell (p := ⟨0, m, none⟩) hgl).trans hgm;go_wp2_with ((at_builtin; (refine wpl_push_strJ (w.alloc (.cells #[.slice (some ⟨bn, on, none⟩) nn nc, .slice (some ⟨bm, om, none⟩) nn mc, .bool late] 61)) _ _ _ ?_ rfl _ _ rfl D k dc _ rfl ho ?_ ?_ rfl hkb ?_); (focus (first | rfl | (simp; done))); exact bL; exact bL; intro D' c' y' ho' hg hd))
   go_roundw
   case rel => exact ⟨k + 1, D', c', y', Om, by go_num, rfl, rfl, by rw [HW.out]; exact ho'⟩
   case measure => simp [intOf]; omega
  ·
   obtain rfl : k = nn := Om;have hz1 := hz k hk;have hj := fun W (h : Below (ext (w.alloc (.cells #[.slice NA k nc, .slice MA k mc, .bool late] 61)) y).heap.size (ext (w.alloc (.cells #[.slice NA k nc, .slice MA k mc, .bool late] 61)) y) W) => joinW_any W _ D k dc (wordS it) ⟨#[43]⟩ (ho.below h) Om Om Om
   clear hz hTk;generalize joinTo ⟨#[43]⟩ (wordS it) k = s at *;have f1 : Fit (s ++ (⟨#[32, 120]⟩ : BA)) := by unfold Fit; simp only [ByteArray.size_append]; have : ByteArray.size ⟨#[32, 120]⟩ = 2 := rfl; omega
   cases late
   ·
    go_wp2_with ((go_at_call 91; ((with_reducible refine (hj _ bL).mono ?_); rintro e w' ⟨rfl, x, rfl⟩)))
    go_ret;exact ⟨ret_str (by rw [HV.out]; rfl), ext_ex bL⟩
   ·
    go_wp2_with ((go_at_call 91; ((with_reducible refine (hj _ bL).mono ?_); rintro e w' ⟨rfl, x, rfl⟩)))
    go_ret;exact ⟨ret_str (by rw [HV.out]; rfl), ext_ex bL⟩
def ptF (l : List Int) (k : Nat) : ByteArray := poS (l[k]?.getD 0)
def ptsS (l : List Int) : ByteArray := joinTo ⟨#[32]⟩ (ptF l) l.length
theorem ptsS_size (hl : ∀ x ∈ l, -1000000000 <= x /\ x <= 1000000000) (k : Nat) (hk : k <= l.length) : (joinTo ⟨#[32]⟩ (ptF l) k).size <= 14 * k := by
 have := joinTo_size (sep := ⟨#[32]⟩) (f := ptF l) (s := 1) (b := 13) (Nat.le_refl 1) k (fun j hj => by
  have := hl _ (getD_mem 0 l j Om);exact poS_size this.1 this.2)
 exact this
theorem pointsWords_any (w : World) (A : OA) (n c : Nat) (l : List Int) (ha : RdI w A n l) (h0 : 0 < n) (hn : n <= 100) (hl : ∀ x ∈ l, -1000000000 <= x /\ x <= 1000000000) (hT : Tab w) :
  Calls Tryz.prog 113 #[.slice A n c] w fun e w' => e = .returned (.string (ptsS l)) /\ ∃ y, w' = ext w y := by
 have Hl := Lib.hid ha.len;have hz := ptsS_size hl l.length (Nat.le_refl _);rw [Hl.out] at hz;have HV : Hid (ptsS l = joinTo ⟨#[32]⟩ (ptF l) n) := by unfold Hid ptsS; rw [Hl.out]
 go_enter Tryz.func113, Tryz.ntmps113;go_wp2
 go_loopw [3, 5, 9] (fun t _ i wr => ∃ (k : Nat) (D : OA) (dc : Nat) (y : World), k <= n /\ i = .int .i64 k /\ t = .slice D k dc /\ wr = ext w y /\ OwT w.heap.size (ext w y) D k dc (wordsF (ptF l) k)) (fun _ _ i _ => n - (intOf i).toNat)
 case atStart =>
  obtain ⟨y, hy⟩ := ext_ex (bAlloc (Below.refl w.heap.size w) (.cells #[] 9));have o0 := OwT.lit_ (Below.refl w.heap.size w) [] (by simp [maxLen]) #[] rfl;rw [hy] at o0;exact ⟨0, _, 0, y, Om, rfl, rfl, hy, by simpa [wordsF] using o0⟩
 case round =>
  obtain ⟨k, D, dc, y, hk, rfl, rfl, rfl, ho⟩ := hrel;by_cases hlt : k < n
  ·
   obtain ⟨b, off, rfl, hb, hc⟩ := ha.open_ Om;have hck := hc k hlt;rw [List.getD_eq_getElem?_getD] at hck;have hv := hl _ (getD_mem 0 l k (by rw [Hl.out]; exact hlt));have HW : Hid (wordsF (ptF l) (k + 1) = wordsF (ptF l) k ++ [poS (l[k]?.getD 0)]) := wordsF_succ (ptF l) k;have hkb : k <= 1099511627776 := Om;clear hc hz;generalize l[k]?.getD 0 = v at *;generalize wordsF (ptF l) k = ws at *;have cp := fun W h => pointsText_any v W hv.1 hv.2 (hT.below h)
   clear hT;go_wp2_with (first | (go_at_call 164; ((with_reducible refine ex (cp _ bL) ?_); intro x)) | (at_builtin; (refine wpl_push_strJ w _ _ _ ?_ rfl _ _ rfl D k dc _ rfl ho ?_ ?_ rfl hkb ?_); (focus (first | rfl | (simp; done))); exact bL; exact bL; intro D' c' y' ho' hg hd))
   go_roundw
   case rel => exact ⟨k + 1, D', c', y', Om, by go_num, rfl, rfl, by rw [HW.out]; exact ho'⟩
   case measure => simp [intOf]; omega
  ·
   obtain rfl : k = n := Om;have hj := fun W (h : Below (ext w y).heap.size (ext w y) W) => joinW_any W _ D k dc (ptF l) ⟨#[32]⟩ (ho.below h) Om Om Om
   clear hz;generalize joinTo ⟨#[32]⟩ (ptF l) k = s at *;go_wp2_with ((go_at_call 91; ((with_reducible refine (hj _ bL).mono ?_); rintro e w' ⟨rfl, x, rfl⟩)))
   go_ret;exact ⟨ret_str (by rw [HV.out]), ext_ex bL⟩
theorem name_size {s : BA} (h : nameB s = true) : s.size <= 5 := by
 simp only [nameB, Bool.and_eq_true] at h;have := inB_iff.1 h.2;omega
theorem code_of {els : List El} {lims : List Int} {q0 q1 q2 q3 : Int} (h : codeB els lims q0 q1 q2 q3 = true) : CodeG els q0 q1 q2 /\ (0 <= q3 /\ q3 <= 500) /\ els.length <= 24 := by
 simp only [codeB, Bool.and_eq_true] at h;obtain ⟨he, hn, _, _, h0, h1, h2, h3⟩ := h;have h0 := inB_iff.1 h0;have h1 := inB_iff.1 h1;have h2 := inB_iff.1 h2;have h3 := inB_iff.1 h3;have hn := inB_iff.1 hn;refine ⟨⟨fun k hk => ?_, h0, h1, Om, Om⟩, h3, Om⟩;have := List.all_eq_true.1 he k (by simpa using hk);simp only [okElAt, elB, Bool.and_eq_true] at this;have hb := inB_iff.1 this.1.2.2.2;exact hb
theorem mkAt_mem {j : Nat} (h : j < it.2.1.length) : mkAt it j ∈ it.2.1 := getD_mem 0 it.2.1 j h
theorem item_of (h : itemB it = true) : (1 <= it.1.length /\ it.1.length <= 3) /\ it.2.1.length = it.1.length /\ ItT it := by
 simp only [itemB, Bool.and_eq_true, decide_eq_true_eq] at h;obtain ⟨hn, hl, hm, ha⟩ := h;have hl := inB_iff.1 hl;refine ⟨Om, hm, fun j hj => ⟨?_, ?_⟩⟩
 ·
  exact name_size (List.all_eq_true.1 hn _ (getD_mem ByteArray.empty it.1 j hj))
 ·
  exact allB_of ha _ (mkAt_mem Om)
theorem items_of (h : itemsB its = true) : its.length <= 14 /\ ∀ j, j < its.length -> (1 <= (its[j]?.getD zIt).1.length /\ (its[j]?.getD zIt).1.length <= 3) /\ (its[j]?.getD zIt).2.1.length = (its[j]?.getD zIt).1.length /\ ItT (its[j]?.getD zIt) := by
 simp only [itemsB, Bool.and_eq_true, decide_eq_true_eq] at h;exact ⟨h.2, fun j hj => item_of (List.all_eq_true.1 h.1 _ (getD_mem zIt its j hj))⟩
theorem know_of {els : List El} (h : knowB els its = true) {j : Nat} (hj : j < its.length) : ∀ i, i < (its[j]?.getD zIt).1.length -> 0 <= findE els (nmAt (its[j]?.getD zIt) i) := fun i hi => by
 have := List.all_eq_true.1 h _ (getD_mem zIt its j hj);have := List.all_eq_true.1 this _ (getD_mem ByteArray.empty (its[j]?.getD zIt).1 i hi);exact of_decide_eq_true this
structure PerfG (els : List El) (q0 q1 q2 q3 : Int) (its : List It) (gg kk : List (List Int)) (s1 s2 s3 : Int) : Prop where
 code : CodeG els q0 q1 q2
 fall : 0 <= q3 /\ q3 <= 500
 itg : ItsG els its
 len : its.length <= 14
 glen : gg.length = its.length
 txt : ∀ j, j < its.length -> ItT (its[j]?.getD zIt)
 grs : ∀ j, j < gg.length -> GrG (gg[j]?.getD [])
 mks : marksB gg kk = true
 slip : slipB s1 s2 s3 = true
theorem perf_of {els : List El} {lims : List Int} {q0 q1 q2 q3 : Int} {s1 s2 s3 : Int} (h : perfB els lims q0 q1 q2 q3 its gg kk s1 s2 s3 = true) : PerfG els q0 q1 q2 q3 its gg kk s1 s2 s3 := by
 simp only [perfB, judgedB, progB, mksB, Bool.and_eq_true, decide_eq_true_eq] at h;obtain ⟨⟨⟨hc, hi, hk⟩, hm, hg⟩, hs⟩ := h;have c := code_of hc;have i := items_of hi;have m := marksB_of hm;refine ⟨c.1, c.2.1, fun j hj => ⟨(i.2 j hj).1, (i.2 j hj).2.1, fun x hx => know_of hk hj x hx⟩, i.1, hg, fun j hj => (i.2 j hj).2.2, fun j hj => ?_, hm, hs⟩;have r := m.2.2.2 j hj;exact ⟨by rw [r.1]; exact m.2.2.1, r.2⟩
def intS (n : Int) : ByteArray := if n < 0 then ⟨#[45]⟩ ++ numS (-n) else numS n
theorem intS_pos (h : 0 <= n) : intS n = numS n := if_neg Om
theorem intS_size (h0 : -100000 < n) (h1 : n < 100000) : (intS n).size <= 6 := by
 unfold intS
 split
 ·
  have := numS_size 4 (-n) Om Om;rw [ByteArray.size_append];have : ByteArray.size ⟨#[45]⟩ = 1 := rfl;omega
 ·
  have := numS_size 4 n Om Om;omega
def numF (l : List Int) (k : Nat) : ByteArray := intS (l[k]?.getD 0)
def numsS (l : List Int) : ByteArray := joinTo ⟨#[32]⟩ (numF l) l.length
def RowG (l : List Int) : Prop := (1 <= l.length /\ l.length <= 9) /\ ∀ x ∈ l, -100000 < x /\ x < 100000
theorem RowG.at (h : RowG l) {k : Nat} (hk : k < l.length) : -100000 < l[k]?.getD 0 /\ l[k]?.getD 0 < 100000 := h.2 _ (getD_mem 0 l k hk)
theorem numsTo_size (h : RowG l) (k : Nat) (hk : k <= l.length) : (joinTo ⟨#[32]⟩ (numF l) k).size <= 63 := by
 have := joinTo_size (sep := ⟨#[32]⟩) (f := numF l) (s := 1) (b := 6) (Nat.le_refl 1) k (fun j hj => by
  have := h.at (k := j) Om;exact intS_size this.1 this.2)
 have := h.1;omega
theorem numsS_size (h : RowG l) : (numsS l).size <= 63 := numsTo_size h _ (Nat.le_refl _)
def rowA (s : BA) (l : List Int) : Nat -> ByteArray
 | 0 => s
 | k + 1 => rowA s l k ++ (⟨#[32]⟩ ++ numF l k)
theorem rowA_join (s : BA) (l : List Int) : ∀ k, rowA s l (k + 1) = s ++ ⟨#[32]⟩ ++ joinTo ⟨#[32]⟩ (numF l) (k + 1)
 | 0 => by rw [rowA, rowA, joinTo_1]; simp only [ByteArray.append_assoc]
 | k + 1 => by
  rw [rowA, rowA_join s l k, joinTo.eq_2 ⟨#[32]⟩ (numF l) (k + 1), if_pos Om]; simp only [ByteArray.append_assoc]
theorem rowA_all (s : BA) (h : RowG l) : rowA s l l.length = s ++ ⟨#[32]⟩ ++ numsS l := by
 obtain ⟨k, hk⟩ : ∃ k, l.length = k + 1 := ⟨l.length - 1, by have := h.1; omega⟩;rw [numsS, hk, rowA_join]
theorem rowA_size {s : BA} {l : List Int} (h : RowG l) : ∀ k, k <= l.length -> (rowA s l k).size <= s.size + 7 * k
 | 0, _ => by simp [rowA]
 | k + 1, hk => by
  have ih := rowA_size (s := s) h k Om;have h2 := h.at (k := k) Om;have h3 : (numF l k).size <= 6 := intS_size h2.1 h2.2;rw [rowA, ByteArray.size_append, ByteArray.size_append];have : ByteArray.size ⟨#[32]⟩ = 1 := rfl;omega
def rowsA (c s : BA) (L : List (List Int)) : Nat -> ByteArray
 | 0 => s
 | k + 1 => rowA (rowsA c s L k ++ c) (L[k]?.getD []) (L[k]?.getD []).length ++ ⟨#[10]⟩
def RowsG (L : List (List Int)) : Prop := ∀ k, k < L.length -> RowG (L[k]?.getD [])
theorem rowsA_line (c s : BA) {L : List (List Int)} (h : RowsG L) (k : Nat) (hk : k < L.length) : rowsA c s L (k + 1) = rowsA c s L k ++ (c ++ ⟨#[32]⟩ ++ numsS (L[k]?.getD []) ++ ⟨#[10]⟩) := by
 rw [rowsA, rowA_all _ (h k hk)];simp only [ByteArray.append_assoc]
theorem rowsA_size {c s : BA} {L : List (List Int)} (hc : c.size = 1) (h : RowsG L) : ∀ k, k <= L.length -> (rowsA c s L k).size <= s.size + 66 * k
 | 0, _ => by simp [rowsA]
 | k + 1, hk => by
  have ih := rowsA_size (s := s) hc h k Om;have h2 := numsS_size (h k Om);rw [rowsA_line c s h k Om];simp only [ByteArray.size_append];have : ByteArray.size ⟨#[32]⟩ = 1 := rfl;have : ByteArray.size ⟨#[10]⟩ = 1 := rfl;omega
def marksS (gg kk : List (List Int)) : ByteArray := rowsA ⟨#[99]⟩ (rowsA ⟨#[103]⟩ ByteArray.empty gg gg.length) kk kk.length
theorem marks_rows (h : marksB gg kk = true) : RowsG gg /\ RowsG kk := by
 have hm := marksB_of h;constructor
 ·
  intro k hk;have h2 := hm.2.2.2 k hk;refine ⟨by rw [h2.1]; have := hm.2.2.1; omega, fun x hx => ?_⟩;have := h2.2 x hx;omega
 ·
  intro k hk;have h2 := h;simp only [marksB, Bool.and_eq_true] at h2;have := List.all_eq_true.1 h2.2.1.2 _ (getD_mem [] kk k hk);simp only [cRowB, Bool.and_eq_true, decide_eq_true_eq] at this;refine ⟨by rw [this.1]; have := hm.2.2.1; omega, fun x hx => ?_⟩;have := List.all_eq_true.1 this.2 x hx;simp only [compB, Bool.and_eq_true] at this;have := inB_iff.1 this.1;omega
theorem marksS_size (hg : RowsG gg) (hk : RowsG kk) : (marksS gg kk).size <= 66 * gg.length + 66 * kk.length := by
 have h1 := rowsA_size (c := ⟨#[103]⟩) (s := ByteArray.empty) rfl hg gg.length (Nat.le_refl _);have h2 := rowsA_size (c := ⟨#[99]⟩) (s := rowsA ⟨#[103]⟩ ByteArray.empty gg gg.length) rfl hk kk.length (Nat.le_refl _);have : ByteArray.empty.size = 0 := rfl;unfold marksS;omega
theorem row_three {a b c : Int} (ha : -100000 < a /\ a < 100000) (hb : -100000 < b /\ b < 100000) (hc : -100000 < c /\ c < 100000) : RowG [a, b, c] := ⟨by simp, fun x hx => by simp at hx; rcases hx with rfl | rfl | rfl <;> assumption⟩
theorem row_two {a b : Int} (ha : -100000 < a /\ a < 100000) (hb : -100000 < b /\ b < 100000) : RowG [a, b] := ⟨by simp, fun x hx => by simp at hx; rcases hx with rfl | rfl <;> assumption⟩
theorem numsS_three (a b c : Int) : numsS [a, b, c] = intS a ++ ⟨#[32]⟩ ++ intS b ++ ⟨#[32]⟩ ++ intS c := by
 simp [numsS, joinTo, numF]
theorem numsS_two (a b : Int) : numsS [a, b] = intS a ++ ⟨#[32]⟩ ++ intS b := by
 simp [numsS, joinTo, numF]
section
variable {H : Type} {enc : TypeId × Value -> H} {P : Program} {w : World} {base : Nat} {sp : Nat -> Bool} {held : Bool}
theorem trod_strs {fuel : Nat} {t e : TypeId} {n : Nat} {cs : List Value} {x : DataW H × List MemPlace}
  (ht : P.underlying t = some (.array n e)) (he : P.underlying e = some .string) (hce : P.cellsOf e = 1) (hct : P.cellsOf t = n)
  (h : DataW.trod enc P w base sp held fuel t cs = some x) : ∃ zs : List BA, cs = zs.map Value.string /\ x = (.agg (zs.map fun z => .lit (.string z.data.toList)), []) /\ zs.length = n /\ ∀ z ∈ zs, z.size <= maxLen := by
 cases fuel with
 | zero => simp [DataW.trod] at h
 | succ fuel =>
  simp only [DataW.trod, ht, hce, hct, Nat.mul_one] at h
  split at h
  ·
   rename_i hl
   obtain ⟨xs, hm, hx⟩ := Option.map_eq_some_iff.1 h;have hxl : xs.length = n := by simpa using Lib.mapM_length hm
   have hi : ∀ i, i < n -> ∃ s : BA, cs[i]? = some (.string s) /\ xs[i]? = some (.lit (.string s.data.toList), []) /\ s.size <= maxLen := fun i hi => by
    obtain ⟨b, hb, hf⟩ := Lib.mapM_at hm i i (by simp [hi]);obtain ⟨s, hc, rfl, hs⟩ := DataW.trod_string he hf;refine ⟨s, ?_, hb, hs⟩;have := congrArg (·[0]?) hc
    simpa [List.getElem?_take, List.getElem?_drop] using this
   obtain ⟨f, hf⟩ : ∃ f : Nat -> ByteArray, ∀ i, i < n -> cs[i]? = some (.string (f i)) /\ xs[i]? = some (.lit (.string (f i).data.toList), []) /\ (f i).size <= maxLen := by
    have h' : ∀ i, ∃ s : BA, i < n -> (cs[i]? = some (.string s) /\ xs[i]? = some (.lit (.string s.data.toList), []) /\ s.size <= maxLen) := fun i => by
     by_cases hn : i < n
     ·
      obtain ⟨s, hs⟩ := hi i hn; exact ⟨s, fun _ => hs⟩
     ·
      exact ⟨ByteArray.empty, fun hh => absurd hh hn⟩
    exact Classical.axiomOfChoice h'
   have hcs : cs = ((List.range n).map f).map Value.string := by
    apply List.ext_getElem?
    intro i;by_cases hn : i < n
    ·
     rw [(hf i hn).1]; simp [hn]
    ·
     rw [List.getElem?_eq_none Om, List.getElem?_eq_none (by simp; omega)]
   have hxs : xs = ((List.range n).map f).map fun z => ((.lit (.string z.data.toList), []) : DataW H × List MemPlace) := by
    apply List.ext_getElem?
    intro i;by_cases hn : i < n
    ·
     rw [(hf i hn).2.1]; simp [hn]
    ·
     rw [List.getElem?_eq_none Om, List.getElem?_eq_none (by simp; omega)]
   refine ⟨(List.range n).map f, hcs, ?_, by simp, fun z hz => ?_⟩
   ·
    rw [<- hx, hxs];simp [List.map_map, List.flatMap]
   ·
    obtain ⟨i, hi', rfl⟩ := List.mem_map.1 hz;exact (hf i (by simpa using hi')).2.2
  ·
   cases h
theorem mapM_some {α β : Type} {f : α -> Option β} {g : α -> β} : ∀ l : List α, (∀ x ∈ l, f x = some (g x)) -> l.mapM f = some (l.map g)
 | [], _ => rfl
 | x :: l, h => by
  rw [List.mapM_cons, h x (by simp), mapM_some l (fun y hy => h y (by simp [hy]))]
  rfl
theorem trod_strs_mk {t e : TypeId} {n : Nat} (ht : P.underlying t = some (.array n e)) (he : P.underlying e = some .string) (hce : P.cellsOf e = 1) (hct : P.cellsOf t = n)
  (zs : List BA) (hl : zs.length = n) (hz : ∀ z ∈ zs, z.size <= maxLen) : DataW.trod enc P w base sp held 2 t (zs.map Value.string) = some (.agg (zs.map fun z => .lit (.string z.data.toList)), []) := by
 have hm : ((List.range n).mapM fun i => DataW.trod enc P w base sp held 1 e (((zs.map Value.string).drop i).take 1)) = some ((List.range n).map fun i => ((.lit (.string (zs[i]?.getD ByteArray.empty).data.toList), []) : DataW H × List MemPlace)) := by
  refine mapM_some _ fun i hi => ?_
  simp only [List.mem_range] at hi;have e1 : ((zs.map Value.string).drop i).take 1 = [.string (zs[i]?.getD ByteArray.empty)] := by
   rw [List.drop_eq_getElem_cons (by simp; omega)];have : zs[i]? = some zs[i] := List.getElem?_eq_getElem Om;simp [this]
  have e2 : (zs[i]?.getD ByteArray.empty).size <= maxLen := hz _ (by
   have : zs[i]? = some zs[i] := List.getElem?_eq_getElem Om;rw [this]; exact List.getElem_mem _)
  rw [e1];simp only [DataW.trod, he, if_pos e2]
 have hr : (List.range n).map (fun i => zs[i]?.getD ByteArray.empty) = zs := by
  apply List.ext_getElem (by simp [hl])
  intro i h1 h2;have : zs[i]? = some zs[i] := List.getElem?_eq_getElem h2;simp [this]
 have hd : (List.range n).map (fun i => ((.lit (.string (zs[i]?.getD ByteArray.empty).data.toList), []) : DataW H × List MemPlace)) = zs.map fun z => ((.lit (.string z.data.toList), []) : DataW H × List MemPlace) := by
  conv => rhs; rw [<- hr]
  rw [List.map_map]; rfl
 rw [hd] at hm;unfold DataW.trod;simp only [ht, hce, hct, Nat.mul_one, List.length_map, hl, if_true];rw [hm];simp [List.map_map, List.flatMap]
end
theorem gSgn : Tryz.prog.globalNamed "loop.example/g00912/impl.markSigns" = some 0 := by kernel_rfl
theorem gSgnType : (Tryz.prog.globals[0]?).map (·.type) = some 168 := by kernel_rfl
theorem cellsSgn : Tryz.prog.cellsOf 168 = 4 := by kernel_rfl
theorem cellsStr : Tryz.prog.cellsOf 9 = 1 := by kernel_rfl
theorem bytes_of_list {s : BA} {l : List UInt8} (h : s.data.toList = l) : s = ⟨l.toArray⟩ := by
 cases s with
 | mk d => simp only at h; rw [<- h]
theorem sgn_of_var {cs : Array Value} (h : W.var? Tryz.prog "loop.example/g00912/impl.markSigns" = some cs) (hc : cs.toList = signsL.map Value.string) : Sgn W := by
 have hcell : ∀ j : Nat, j < 4 -> W.cell? ⟨0, j, none⟩ = some (.string (signsL[j]?.getD ByteArray.empty)) := fun j hj => by
  have h1 := World.var?_cell gSgn h j;rw [h1, <- Array.getElem?_toList, hc]
  rcases (by omega : j = 0 ∨ j = 1 ∨ j = 2 ∨ j = 3) with rfl | rfl | rfl | rfl <;> rfl
 exact ⟨World.block_lt_of_cell? W _ (hcell 0 Om), hcell⟩
theorem sgnVars {H : Type} {enc : TypeId × Value -> H} {W' : World} {gs : List (DataW H)} {ps : List MemPlace} {sp : Nat -> Bool} (h : DataW.TrodVars enc Tryz.prog W (fun _ => true) ["loop.example/g00912/impl.markSigns"] gs ps) (hs : Sgn W) (hb : Below W.heap.size W W') :
  ∃ d qs, gs = [d] /\ DataW.TrodVars enc Tryz.prog W' sp ["loop.example/g00912/impl.markSigns"] [d] qs := by
 obtain ⟨g, t, cs, fuel, d, p, rfl, h1, h2, h3, h4, _⟩ := trodVars_one h;obtain rfl := Option.some.inj (gSgn.symm.trans h1);obtain rfl := Option.some.inj (gSgnType.symm.trans h2);obtain ⟨zs, hcs, hx, hl, hz⟩ := trod_strs Tryz.underlying168 Tryz.underlying9 cellsStr cellsSgn h4;have hv : W'.var? Tryz.prog "loop.example/g00912/impl.markSigns" = some cs := by
  rw [<- h3];simp only [World.var?, gSgn, Option.bind_some, Option.bind_eq_bind, hb.block 0 hs.1]
 have hd := trod_strs_mk (enc := enc) (w := W') (base := 0) (sp := sp) (held := true) Tryz.underlying168 Tryz.underlying9 cellsStr cellsSgn zs hl hz;have e : d = .agg (zs.map fun z => .lit (.string z.data.toList)) := congrArg Prod.fst hx;rw [<- hcs, <- e] at hd;exact ⟨d, _, rfl, trodVars_mk1 gSgn gSgnType hv hd⟩
def cellsS : Array Value := #[.string ⟨#[]⟩, .string ⟨#[60]⟩, .string ⟨#[101]⟩, .string ⟨#[42]⟩]
noncomputable def laidWorld4 (os : Os) : World :=
 { laidWorld os with heap := (laidWorld os).heap.modify 0 (fun | .cells _ t frozen => .cells cellsS t frozen | o => o) }
end Go.Proofs.YtlfhhkgleapamaaGreatDoor
