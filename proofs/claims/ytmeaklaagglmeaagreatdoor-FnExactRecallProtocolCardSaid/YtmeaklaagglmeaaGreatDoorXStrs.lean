/- Slices of strings: how they read, and the contracts of the functions that copy, compare and mark them. Conditions: lengths below 2^40. -/
import Derived.Test.YtmeaklaagglmeaaGreatDoorXL1
import Derived.Test.YtmeaklaagglmeaaGreatDoorXLawKit
import Derived.Deep.RegionHeld3
set_option linter.unusedVariables false
set_option linter.unusedSimpArgs false
set_option maxRecDepth 100000
namespace Go.Proofs.YtmeaklaagglmeaaGreatDoor
open Go.RowKit
theorem ret_str {a b : ByteArray} (h : a = b) : Ending.returned (.string a) = .returned (.string b) := by rw [h]
def RdT (w : World) (A : Option Addr) (n : Nat) (l : List ByteArray) : Prop := Rd 1 w A n (l.map Value.string)
def OwT (base : Nat) (w : World) (A : Option Addr) (n c : Nat) (l : List ByteArray) : Prop := Ow 9 1 base w A n c (l.map Value.string)
theorem string_info : (Tryz.prog.info? 9).map (fun i => (i.zero, i.size, i.bytes)) = some (some (.string ByteArray.empty), 1, 16) := by kernel_rfl
section
variable {base base' n c : Nat} {w w' : World} {A : Option Addr} {l : List ByteArray}
theorem RdT.below (h : RdT w A n l) (hb : Below w.heap.size w w') : RdT w' A n l := Rd.below h hb
theorem RdT.len (h : RdT w A n l) : l.length = n := by have := h.1; simpa using this
theorem RdT.open_ (h : RdT w A n l) (hn : 0 < n) : ∃ b off, A = some ⟨b, off, none⟩ ∧ b < w.heap.size ∧ ∀ j, j < n → w.cell? ⟨b, off + j, none⟩ = some (.string (l[j]?.getD ByteArray.empty)) := by
 have hl := h.len
 obtain ⟨b, off, e, hlt, hc⟩ := h.2 hn
 refine ⟨b, off, e, hlt, fun j hj => hc j _ ?_⟩
 have hj' : j < l.length := by omega
 simp [hj']
theorem OwT.len (h : OwT base w A n c l) : l.length = n := by have := Ow.len h; simpa using this
theorem OwT.below (h : OwT base w A n c l) (hb : Below w.heap.size w w') : OwT base w' A n c l := Ow.below h hb
theorem OwT.kept {row : Option Nat} (h : OwT base w A n c l) (hg : w.grownBy w' row) (hne : blkOf A = none ∨ blkOf A ≠ row) : OwT base w' A n c l := Ow.kept h hg hne
theorem OwT.mono (h : OwT base w A n c l) (hb : base' ≤ base) : OwT base' w A n c l := Ow.mono h hb
theorem OwT.nil_ : OwT base w none 0 0 [] := Ow.nil_
theorem OwT.rd (h : OwT base w A n c l) : RdT w A n l := Ow.rd h
theorem OwT.cap_ (h : OwT base w A n c l) : n ≤ c ∧ c ≤ maxLen := Ow.cap_ h
theorem OwT.blk (h : OwT base w A n c l) {g : Nat} (hA : blkOf A = some g) : base ≤ g ∧ g < w.heap.size := Ow.blk h hA
theorem OwT.form_ (h : OwT base w A n c l) (hn : 0 < n) : ∃ g, A = some ⟨g, 0, none⟩ ∧ base ≤ g ∧ g < w.heap.size := Ow.form_ h hn
theorem OwT.cell_ {g : Nat} (h : OwT base w (some ⟨g, 0, none⟩) n c l) (j : Nat) (hj : j < n) : w.cell? ⟨g, j, none⟩ = some (.string (l[j]?.getD ByteArray.empty)) := by
 have hl := h.len
 rw [Ow.cell_ h j (by omega)]
 simp [show j < l.length by omega]
theorem OwT.frozen_ {g : Nat} (h : OwT base w (some ⟨g, 0, none⟩) n c l) (j : Nat) : w.frozen? ⟨g, j, none⟩ = false := Ow.frozen_ h j
theorem OwT.stored_ {g : Nat} (h : OwT base w (some ⟨g, 0, none⟩) n c l) (j : Nat) (u : ByteArray) :
  OwT base (w.setCell ⟨g, j, none⟩ (.string u)) (some ⟨g, 0, none⟩) n c (l.set j u) ∧ w.grownBy (w.setCell ⟨g, j, none⟩ (.string u)) (some g) := by
 have := Ow.stored_ h j (.string u)
 refine ⟨?_, this.2⟩
 unfold OwT
 rw [List.map_set]
 exact this.1
theorem OwT.lit_ {R w : World} (hR : Below R.heap.size R w) (l : List ByteArray) (hl : l.length ≤ maxLen) (cs : Array Value) (hcs : cs.toList = l.map Value.string) :
  OwT R.heap.size (w.alloc (.cells cs 9)) (some ⟨w.heap.size, 0, none⟩) l.length l.length l := by
 have hs : cs.size = l.length * 1 := by rw [← Array.length_toList, hcs]; simp
 have := World.ownsRow_lit (base := R.heap.size) (e := 9) (size := 1) w cs l.length hR.size hl hs
 rw [hcs] at this
 exact this
end
def RetT (w : World) (l : List ByteArray) (e : Ending) (w' : World) : Prop := ∃ A n c x, e = .returned (.slice A n c) ∧ w' = ext w x ∧ OwT w.heap.size (ext w x) A n c l
theorem RetT.mk_ {w W : World} {base : Nat} {A : Option Addr} {n c : Nat} {l : List ByteArray} (ho : OwT base W A n c l) (hbase : w.heap.size ≤ base) (hb : Below w.heap.size w W) : RetT w l (.returned (.slice A n c)) W := by
 obtain ⟨x, rfl⟩ := ext_ex hb
 exact ⟨A, n, c, x, rfl, rfl, ho.mono hbase⟩
def oneB (n : Int) : ByteArray := ByteArray.empty.push (UInt8.ofNat n.toNat)
set_option maxHeartbeats 400000 in
theorem eqStringS_any (w : World) (A B : Option Addr) (n m c d : Nat) (l : List ByteArray) (ha : RdT w A n l) (hb : RdT w B m l) (hn : n ≤ 1099511627776) :
  Calls Tryz.prog 170 #[.slice A n c, .slice B m d] w fun e w' => e = .returned (.bool true) ∧ ∃ x, w' = ext w x := by
 obtain rfl : n = m := ha.len.symm.trans hb.len
 go_enter Tryz.func170, Tryz.ntmps170
 go_wp2
 go_loopw [5] (fun i wr => ∃ k x, k ≤ n ∧ i = .int .i64 (k : Nat) ∧ wr = ext w x) (fun i _ => n - (intOf i).toNat)
 case atStart => exact ⟨0, _, Nat.zero_le _, rfl, ext_self w⟩
 case round =>
  obtain ⟨k, x, hk, rfl, rfl⟩ := hrel
  by_cases hlt : k < n
  ·
   obtain ⟨b1, o1, rfl, hb1, hc1⟩ := ha.open_ (by omega)
   obtain ⟨b2, o2, rfl, hb2, hc2⟩ := hb.open_ (by omega)
   have hq1 := hc1 k hlt
   have hq2 := hc2 k hlt
   clear hc1 hc2
   generalize l[k]?.getD ByteArray.empty = sk at *
   go_wp2
   go_quiet (fail)
   go_wp2
   go_roundw
   case rel => exact ⟨k + 1, _, by omega, by go_num, (ext_ex bl).choose_spec⟩
   case measure => simp [intOf]; omega
  ·
   go_wp2
   go_ret
   exact ⟨rfl, _, rfl⟩
theorem run_conv_one (W : World) (n : Int) (g : Nat) (h : g = W.heap.size) : (convert 46 9 (.slice (some ⟨g, 0, none⟩) 1 1)).run Tryz.prog (W.alloc (.cells #[.int .u8 n] 5)) = .ok (.string (oneB n)) (W.alloc (.cells #[.int .u8 n] 5)) := by
 subst h
 have hl := run_loadCells_list (P := Tryz.prog) (W.alloc (.cells #[.int .u8 n] 5)) ⟨W.heap.size, 0, none⟩ [Value.int .u8 n] (fun j v hj => by
  match j with
  | 0 => simp at hj; subst hj; simp [Addr.add, go_sem]
  | j + 1 => simp at hj)
 rw [run_convert_bytes_string _ _ _ _ _ _ _ Tryz.underlying46 Tryz.underlying5 Tryz.underlying9, run_bytesToString _ _ 1 1 [n] hl]
 rfl
attribute [go_sem] run_conv_one
def mtLoop : Nat → Int → ByteArray → ByteArray
 | 0, _, out => out
 | f + 1, k, out => if 0 < k then mtLoop f (k / 10) (oneB (48 + k % 10) ++ out) else out
def markT (k : Int) : ByteArray := ⟨#[109]⟩ ++ mtLoop 20 k ByteArray.empty
theorem oneB_size (n : Int) : (oneB n).size ≤ 1 := by simp [oneB, ByteArray.size_push]
theorem mtLoop_size (f : Nat) : ∀ (k : Int) (out : ByteArray), (mtLoop f k out).size ≤ out.size + f := by
 induction f with
 | zero => intro k out; simp [mtLoop]
 | succ f ih =>
  intro k out
  rw [mtLoop]
  split
  ·
   have h1 := ih (k / 10) (oneB (48 + k % 10) ++ out)
   have h2 := oneB_size (48 + k % 10)
   rw [ByteArray.size_append] at h1
   omega
  ·
   omega
set_option maxHeartbeats 400000 in
theorem markText_any (k : Int) (w : World) (hk : 0 < k) (hk2 : k ≤ 2199023255552) :
  Calls Tryz.prog 119 #[.int .i64 k] w fun e w' => e = .returned (.string (markT k)) ∧ ∃ x, w' = ext w x := by
 have hR := mtLoop_size 20 k ByteArray.empty
 have hmt : Hid (markT k = ⟨#[109]⟩ ++ mtLoop 20 k ByteArray.empty) := rfl
 generalize hR0 : mtLoop 20 k ByteArray.empty = RES at hR hmt
 have HR0 := Lib.hid hR0
 clear hR0
 have hR1 : RES.size ≤ 20 := by simpa using hR
 clear hR
 go_enter Tryz.func119, Tryz.ntmps119
 go_wp2
 go_loopw [0, 3] (fun q o wr => ∃ (f : Nat) (j : Int) (out : ByteArray) (x : World), 0 ≤ j ∧ j ≤ 2199023255552 ∧ Hid (j < 10 ^ f) ∧ out.size + f ≤ 20 ∧ q = .int .i64 j ∧ o = .string out ∧ wr = ext w x ∧ Hid (mtLoop f j out = RES)) (fun q _ _ => (intOf q).toNat)
 case atStart => exact ⟨20, k, _, _, by omega, hk2, (show k < 10 ^ 20 by omega), Nat.le_refl _, rfl, rfl, ext_self w, HR0.out⟩
 case round =>
  obtain ⟨f, j, out, x, hj0, hj1, hj2, hsz, rfl, rfl, rfl, HR⟩ := hrel
  by_cases hpos : 0 < j
  ·
   obtain ⟨f, rfl⟩ : ∃ f', f = f' + 1 := by
    cases f with
    | zero => have := hj2.out; simp at this; omega
    | succ f => exact ⟨f, rfl⟩
   have ho1 := oneB_size (48 + j % 10)
   have HRn : Hid (mtLoop f (j / 10) (oneB (48 + j % 10) ++ out) = RES) := by
    have h := HR.out
    rw [mtLoop, if_pos hpos] at h
    exact h
   have Hj3 : Hid (j / 10 < 10 ^ f) := by
    have h := hj2.out
    rw [Int.pow_succ] at h
    show j / 10 < 10 ^ f
    omega
   have Hsz : Hid ((oneB (48 + j % 10) ++ out).size + f ≤ 20) := by
    show (oneB (48 + j % 10) ++ out).size + f ≤ 20
    rw [ByteArray.size_append]; omega
   go_wp2
   go_roundw
   case rel => exact ⟨f, j / 10, _, _, by omega, by omega, Hj3, Hsz.out, rfl, rfl, (ext_ex bl).choose_spec, HRn⟩
   case measure => simp [intOf]; omega
  ·
   have hres : Hid (out = RES) := by
    have h := HR.out
    cases f with
    | zero => exact h
    | succ f => rw [mtLoop, if_neg hpos] at h; exact h
   go_wp2
   go_ret
   exact ⟨ret_str (by rw [hmt.out, ← hres.out]), ext_ex bl⟩
def marksT (q : Int) (n : Nat) : List ByteArray := (List.range n).map fun (i : Nat) => markT (q + i)
theorem marksT_step (q : Int) (l : List ByteArray) (k : Nat) (h : k < l.length) : (marksT q k ++ l.drop k).set k (markT (q + k)) = marksT q (k + 1) ++ l.drop (k + 1) := by
 have e : (marksT q k).length = k := by simp [marksT]
 rw [List.set_append_right _ _ (by omega), e, Nat.sub_self, List.drop_eq_getElem_cons h, List.set_cons_zero]
 simp [marksT, List.range_succ]
theorem gExt {w w' : World} {row : Option Nat} (h : w.grownBy w' row) (x : World) : w.grownBy (ext w' x) row :=
 ⟨h.os, h.tape, h.output, Nat.le_trans h.size (ext_le _ _), fun k hk hne => ((ext_below w' x).block k (Nat.lt_of_lt_of_le hk h.size)).trans (h.block k hk hne)⟩
theorem gSet {w w' : World} {g : Nat} (h : w.grownBy w' (some g)) (j : Nat) (u : Value) : w.grownBy (w'.setCell ⟨g, j, none⟩ u) (some g) :=
 ⟨h.os, h.tape, h.output, by simpa [World.setCell] using h.size, fun k hk hne => (Below.heap_setCell w' ⟨g, j, none⟩ u k (fun e => hne (by rw [e]))).trans (h.block k hk hne)⟩
set_option maxHeartbeats 400000 in
theorem markStringS_any (w : World) (base : Nat) (A : Option Addr) (n c : Nat) (l : List ByteArray) (q : Int) (ha : OwT base w A n c l) (hn : n ≤ 1099511627776) (hq : 0 < q) (hq2 : q ≤ 1099511627776) :
  Calls Tryz.prog 120 #[.slice A n c, .int .i64 q] w fun e w' => e = .returned (.int .i64 (q + n)) ∧ OwT base w' A n c (marksT q n) ∧ w.grownBy w' (blkOf A) := by
 have Hl := Lib.hid ha.len
 go_enter Tryz.func120, Tryz.ntmps120
 go_wp2
 go_loopw [1, 5] (fun t i wr => ∃ k : Nat, k ≤ n ∧ i = .int .i64 k ∧ t = .int .i64 (q + k) ∧ OwT base wr A n c (marksT q k ++ l.drop k) ∧ w.grownBy wr (blkOf A)) (fun _ i _ => n - (intOf i).toNat)
 case atStart => exact ⟨0, by omega, rfl, by simp, by simpa [marksT] using ha, World.grownBy.refl _ _⟩
 case round =>
  obtain ⟨k, hk, rfl, rfl, ho, hg⟩ := hrel
  by_cases hlt : k < n
  ·
   obtain ⟨g, rfl, hb, hz⟩ := ho.form_ (by omega)
   have HS := Lib.hid (marksT_step q l k (by rw [Hl.out]; exact hlt))
   generalize marksT q k ++ l.drop k = cur at ho HS
   go_wp2_with (go_at_call 119; ((with_reducible refine (markText_any _ _ (by omega) (by omega)).mono ?_); rintro e w' ⟨rfl, x, rfl⟩; have ho2 := ho.below (ext_below _ x); have hcc := ho2.cell_ k hlt; have hff := ho2.frozen_ k; obtain ⟨u, hu⟩ : ∃ u, cur[k]?.getD ByteArray.empty = u := ⟨_, rfl⟩; rw [hu] at hcc; clear hu))
   have hst := ho2.stored_ k (markT (q + k))
   rw [HS.out] at hst
   go_roundw
   case rel => exact ⟨k + 1, by omega, by go_num, by go_num, hst.1, gSet (gExt hg x) _ _⟩
   case measure => simp [intOf]; omega
  ·
   have hkn := Lib.hid (show k = n by omega)
   go_wp2
   go_ret
   refine ⟨ret_int (by rw [hkn.out]), ?_, hg⟩
   have := ho
   rw [List.drop_of_length_le (by rw [Hl.out]; omega), List.append_nil, hkn.out] at this
   exact this
set_option maxHeartbeats 400000 in
theorem heldStringS_any (w : World) (A : Option Addr) (n c : Nat) (l : List ByteArray) (q : Int) (ha : RdT w A n l) (hn : n ≤ 1099511627776) (hq : 0 < q) (hq2 : q ≤ 1099511627776) (hm : l = marksT q n) :
  Calls Tryz.prog 122 #[.slice A n c, .int .i64 q] w fun e w' => e = .returned (.int .i64 (q + n)) ∧ ∃ x, w' = ext w x := by
 have Hm : ∀ k : Nat, k < n → Hid (l[k]?.getD ByteArray.empty = markT (q + k)) := fun k hk => by subst hm; simp [marksT, hk, Hid]
 clear hm
 go_enter Tryz.func122, Tryz.ntmps122
 go_wp2
 go_loopw [1, 5] (fun t i wr => ∃ (k : Nat) (x : World), k ≤ n ∧ i = .int .i64 k ∧ t = .int .i64 (q + k) ∧ wr = ext w x) (fun _ i _ => n - (intOf i).toNat)
 case atStart => exact ⟨0, _, by omega, rfl, by simp, ext_self w⟩
 case round =>
  obtain ⟨k, x, hk, rfl, rfl, rfl⟩ := hrel
  by_cases hlt : k < n
  ·
   obtain ⟨b, off, rfl, hb, hc⟩ := ha.open_ (by omega)
   have hck := hc k hlt
   rw [(Hm k hlt).out] at hck
   clear hc Hm
   go_wp2
   go_region_held3 (fun w' => w'.cell? ⟨b, off + k, none⟩ = some (.string (markT (q + k)))) (first | (simp [go_sem, hb, hck]; done))
    (first
     | (go_at_call 119; ((with_reducible refine (markText_any _ _ (by omega) (by omega)).mono ?_); rintro e w' ⟨rfl, y, rfl⟩)))
   go_wp2
   go_roundw
   case rel => exact ⟨k + 1, _, by omega, by go_num, by go_num, (ext_ex bl).choose_spec⟩
   case measure => simp [intOf]; omega
  ·
   have hkn := Lib.hid (show k = n by omega)
   go_wp2
   go_ret
   exact ⟨ret_int (by rw [hkn.out]), _, rfl⟩
end Go.Proofs.YtmeaklaagglmeaaGreatDoor
