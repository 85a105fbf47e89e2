/- The seal of a chain, in the program and in the reference. Conditions: the table that strconv.Itoa reads. -/
import Derived.Test.YtpjaiihkgeabiaaDoorNumI
import Derived.Test.YtpjaiihkgeabiaaDoorRecords
import Derived.Laws.Concat
set_option linter.unusedVariables false
set_option linter.unusedSimpArgs false
set_option maxRecDepth 100000
namespace Go.Proofs.YtpjaiihkgeabiaaDoor
open Go.RowKit
/-- The text of a key and the first k links. -/
def sealT (key : Int) (l : List Int) : Nat → ByteArray
  | 0 => numS key
  | k + 1 => sealT key l k ++ (⟨#[32]⟩ ++ numS (l[k]?.getD 0))
def sealN (key : Int) (l : List Int) : Int := digest (sealT key l l.length)
theorem num10 {n : Int} (h0 : 0 ≤ n) (h1 : n ≤ 1000000000) : (numS n).size ≤ 10 := numS_size 9 n h0 (by omega)
theorem sealT_size {key : Int} {l : List Int} (h0 : 0 ≤ key) (h1 : key ≤ 1000000000) (hl : ∀ x ∈ l, 0 ≤ x ∧ x ≤ 1000002) (k : Nat) (hk : k ≤ l.length) : (sealT key l k).size ≤ 10 + 11 * k := by
  induction k with
  | zero => exact num10 h0 h1
  | succ k ih =>
    have h2 := hl _ (getD_mem 0 l k (by omega))
    have h3 := num10 h2.1 (by omega)
    have h4 := ih (by omega)
    have h5 : ByteArray.size ⟨#[32]⟩ = 1 := rfl
    rw [sealT, ByteArray.size_append, ByteArray.size_append]
    omega
def wordsN (l : List Int) (k : Nat) : List ByteArray := (l.take k).map numS
theorem wordsN_succ (l : List Int) (k : Nat) (h : k < l.length) : wordsN l (k + 1) = wordsN l k ++ [numS (l[k]?.getD 0)] := by
  rw [wordsN, take_succ_getD 0 l k h]; simp [wordsN]
theorem wordsN_len (l : List Int) (k : Nat) (h : k ≤ l.length) : (wordsN l k).length = k := by simp [wordsN]; omega
theorem joinTail_snoc (sep : List UInt8) (r : List (List UInt8)) (x : List UInt8) : Lib.joinTail sep (r ++ [x]) = Lib.joinTail sep r ++ (sep ++ x) := by simp [Lib.joinTail]
theorem seal_join (key : Int) (l : List Int) (k : Nat) (hk : k ≤ l.length) : (sealT key l k).data.toList = (numS key).data.toList ++ Lib.joinTail [32] ((wordsN l k).map (·.data.toList)) := by
  induction k with
  | zero => simp [sealT, wordsN, Lib.joinTail]
  | succ k ih =>
    rw [sealT, ByteArray.data_append, Array.toList_append, ih (by omega), wordsN_succ l k (by omega), List.map_append, List.map_cons, List.map_nil, joinTail_snoc, ByteArray.data_append, Array.toList_append]
    simp
theorem seal_text (key : Int) (l : List Int) : (⟨(Lib.join ((wordsN (key :: l) (l.length + 1)).map (·.data.toList)) [32]).toArray⟩ : ByteArray) = sealT key l l.length := by
  have e : wordsN (key :: l) (l.length + 1) = numS key :: wordsN l l.length := by simp [wordsN]
  rw [e, List.map_cons, Lib.join_cons, ← seal_join key l l.length (Nat.le_refl _)]
set_option maxHeartbeats 2000000 in
theorem numbersText_any (w : World) (A : Option Addr) (n c : Nat) (key : Int) (l : List Int) (ha : RdI w A n (key :: l)) (hn : n ≤ 100) (h0 : 0 ≤ key) (h1 : key ≤ 1000000000) (hl : ∀ x ∈ l, 0 ≤ x ∧ x ≤ 1000002) (hT : Tab w) :
    Calls Tryd.prog 92 #[.slice A n c] w fun e w' => e = .returned (.string (sealT key l l.length)) ∧ ∃ x, w' = ext w x := by
  have hlen := ha.len
  simp only [List.length_cons] at hlen
  have hall : ∀ k : Nat, k < n → 0 ≤ (key :: l)[k]?.getD 0 ∧ (key :: l)[k]?.getD 0 ≤ 1000000000 := fun k hk => by
    have hm := getD_mem 0 (key :: l) k (by simp only [List.length_cons]; omega)
    rcases List.mem_cons.1 hm with e | hm
    · omega
    · have := hl _ hm; omega
  have hsz := sealT_size h0 h1 hl l.length (Nat.le_refl _)
  have Htext := Lib.hid (seal_text key l)
  have o0 : OwT w.heap.size (w.alloc (.cells #[] 9)) (some ⟨w.heap.size, 0, none⟩) 0 0 [] := OwT.lit_ (Below.refl w.heap.size w) [] (by simp [maxLen]) #[] rfl
  go_enter Tryd.func92, Tryd.ntmps92
  go_wp2
  go_loopw [3, 5, 9] (fun v _ i wr => ∃ (k : Nat) (D : Option Addr) (q : Nat) (y : World), k ≤ n ∧ i = .int .i64 k ∧ v = .slice D k q ∧ wr = ext w y ∧ OwT w.heap.size (ext w y) D k q (wordsN (key :: l) k)) (fun _ _ i _ => n - (intOf i).toNat)
  case atStart =>
    obtain ⟨y, hy⟩ := ext_ex (bAlloc (Below.refl w.heap.size w) (.cells #[] 9))
    refine ⟨0, some ⟨w.heap.size, 0, none⟩, 0, y, by omega, rfl, rfl, hy, ?_⟩
    rw [← hy]; exact o0
  case round =>
    obtain ⟨k, D, q, y, hk, rfl, rfl, rfl, ho⟩ := hrel
    by_cases hlt : k < n
    · obtain ⟨b, o, rfl, hb, hc⟩ := ha.open_ (by omega)
      have hck := hc k hlt
      rw [List.getD_eq_getElem?_getD] at hck
      obtain ⟨hv0, hv1⟩ := hall k hlt
      have HW := Lib.hid (wordsN_succ (key :: l) k (by simp only [List.length_cons]; omega))
      have hkb : k ≤ 1099511627776 := by omega
      clear hc hall hsz
      generalize (key :: l)[k]?.getD 0 = v at *
      go_wp2_with (first | (go_at_call 82; ((with_reducible refine (itoa_any _ _ hv0 (by omega) (hT.below (by repeat (first | exact Below.refl _ _ | assumption | refine bExt ?_ _ | refine bAlloc ?_ _ | refine bDrewN ?_ _ | refine bDrew ?_ | refine bSet ?_ (by first | exact Nat.le_refl _ | omega | (simp; done) | (simp; omega)) _)))).mono ?_); rintro e w' ⟨rfl, x, rfl⟩)) | (at_builtin; (refine wpl_push_str w _ _ _ ?_ rfl _ _ rfl D k q _ rfl ho ?_ ?_ rfl hkb ?_); (focus (first | rfl | (simp; done))); (focus (repeat (first | exact Below.refl _ _ | assumption | refine bExt ?_ _ | refine bAlloc ?_ _ | refine bDrewN ?_ _ | refine bDrew ?_ | refine bSet ?_ (by first | exact Nat.le_refl _ | omega | (simp; done) | (simp; omega)) _))); (focus (repeat (first | exact Below.refl _ _ | assumption | refine bExt ?_ _ | refine bAlloc ?_ _ | refine bDrewN ?_ _ | refine bDrew ?_ | refine bSet ?_ (by first | exact Nat.le_refl _ | omega | (simp; done) | (simp; omega)) _))); intro D' c' y' ho' hg hd))
      go_roundw
      case rel => exact ⟨k + 1, D', c', y', by omega, by go_num, rfl, rfl, by rw [HW.out]; exact ho'⟩
      case measure => simp [intOf]; omega
    · obtain rfl : k = n := by omega
      obtain ⟨g, rfl, hg1, hg2⟩ := ho.form_ (by omega)
      have hwl := wordsN_len (key :: l) k (by simp only [List.length_cons]; omega)
      have hjl : (Lib.join ((wordsN (key :: l) k).map (·.data.toList)) [32]).length ≤ 140737488355328 := by
        have e := congrArg ByteArray.size Htext.out
        rw [hlen] at e
        have e2 : (Lib.join ((wordsN (key :: l) k).map (·.data.toList)) [32]).length = (sealT key l l.length).size := by rw [← e]; simp [ByteArray.size]
        omega
      have hj := Tryd.strings_Join g 0 q (wordsN (key :: l) k) ⟨#[32]⟩ (ext w y) (fun j x hx => by
        have hj := (List.getElem?_eq_some_iff.1 hx).1
        have := ho.cell_ j (by omega)
        rw [hx, Option.getD_some] at this
        simpa using this) hg2 (by omega) (by have := ho.cap_; omega) hjl
      rw [hwl] at hj
      have Ht : Hid ((⟨(Lib.join ((wordsN (key :: l) k).map (·.data.toList)) [32]).toArray⟩ : ByteArray) = sealT key l l.length) := Lib.hid (by have := Htext.out; rw [hlen] at this; exact this)
      clear hall hsz hjl hwl
      generalize (⟨(Lib.join ((wordsN (key :: l) k).map (·.data.toList)) [32]).toArray⟩ : ByteArray) = tx at *
      go_wp2_with ((go_at_call 111; ((with_reducible refine (hj).mono ?_); rintro e w' ⟨rfl, hbj⟩)))
      go_ret
      exact ⟨ret_str Ht.out, ext_ex ((ext_below w y).trans (hbj.mono (ext_le _ _)))⟩
set_option maxHeartbeats 1000000 in
theorem sealOf_any (w : World) (A : Option Addr) (n c : Nat) (key : Int) (l : List Int) (ha : RdI w A n l) (hn : n ≤ 40) (h0 : 0 ≤ key) (h1 : key ≤ 1000000000) (hl : ∀ x ∈ l, 0 ≤ x ∧ x ≤ 1000002) (hT : Tab w) :
    Calls Tryd.prog 46 #[.int .i64 key, .slice A n c] w fun e w' => e = .returned (.int .i64 (sealN key l)) ∧ ∃ x, w' = ext w x := by
  have hlen := ha.len
  have o0 := OwI.lit_ (Below.refl w.heap.size w) [key] (by simp [maxLen]) #[.int .i64 key] rfl
  have hn0 : 1 + n ≤ 1099511627776 := by omega
  have hsz := sealT_size h0 h1 hl l.length (Nat.le_refl _)
  have hsz2 : (sealT key l l.length).size ≤ 1099511627776 := by omega
  have HS : Hid (sealN key l = digest (sealT key l l.length)) := rfl
  clear hsz hlen
  go_enter Tryd.func46, Tryd.ntmps46
  go_wp2_with (at_builtin; (refine wpl_app_int w rfl _ _ rfl (some ⟨w.heap.size, 0, none⟩) 1 1 [key] rfl o0 ?_ ?_ A n c l rfl ha ?_ hn0 ?_); (focus (repeat (first | exact Below.refl _ _ | assumption | refine bExt ?_ _ | refine bAlloc ?_ _ | refine bDrewN ?_ _ | refine bDrew ?_ | refine bSet ?_ (by first | exact Nat.le_refl _ | omega | (simp; done) | (simp; omega)) _))); (focus (repeat (first | exact Below.refl _ _ | assumption | refine bExt ?_ _ | refine bAlloc ?_ _ | refine bDrewN ?_ _ | refine bDrew ?_ | refine bSet ?_ (by first | exact Nat.le_refl _ | omega | (simp; done) | (simp; omega)) _))); (focus (repeat (first | exact Below.refl _ _ | assumption | refine bExt ?_ _ | refine bAlloc ?_ _ | refine bDrewN ?_ _ | refine bDrew ?_ | refine bSet ?_ (by first | exact Nat.le_refl _ | omega | (simp; done) | (simp; omega)) _))); intro A' c' y ho hg hd)
  have ho2 : RdI (ext w y) A' (1 + n) (key :: l) := ho.rd
  refine (numbersText_any _ _ _ _ key l ho2 (by omega) h0 h1 hl (hT.below (by repeat (first | exact Below.refl _ _ | assumption | refine bExt ?_ _ | refine bAlloc ?_ _ | refine bDrewN ?_ _ | refine bDrew ?_ | refine bSet ?_ (by first | exact Nat.le_refl _ | omega | (simp; done) | (simp; omega)) _)))).mono ?_
  rintro e w1 ⟨rfl, x, rfl⟩
  go_wp2_with ((go_at_call 91; ((with_reducible refine (digestOf_any _ _ hsz2).mono ?_); rintro e w' ⟨rfl, rfl⟩)))
  go_ret
  exact ⟨ret_int (by rw [HS.out]), ext_ex (by repeat (first | exact Below.refl _ _ | assumption | refine bExt ?_ _ | refine bAlloc ?_ _ | refine bDrewN ?_ _ | refine bDrew ?_ | refine bSet ?_ (by first | exact Nat.le_refl _ | omega | (simp; done) | (simp; omega)) _))⟩
set_option maxHeartbeats 1000000 in
theorem chSeal_any (w : World) (A : Option Addr) (n c : Nat) (key : Int) (l : List Int) (ha : RdI w A n l) (hn : n ≤ 40) (h0 : 0 ≤ key) (h1 : key ≤ 1000000000) (hl : ∀ x ∈ l, 0 ≤ x ∧ x ≤ 1000002) :
    Calls Tryd.prog 49 #[.int .i64 key, .slice A n c] w fun e w' => e = .returned (.int .i64 (sealN key l)) ∧ ∃ x, w' = ext w x := by
  have hlen := ha.len
  have hsz := fun k (hk : k ≤ l.length) => sealT_size h0 h1 hl k hk
  have Hlen := Lib.hid hlen
  clear hlen
  go_enter Tryd.func49, Tryd.ntmps49
  go_wp2_with ((go_at_call 87; ((with_reducible refine (l1Num_fuel 9 _ _ h0 (by omega) (by omega) (by omega)).mono ?_); rintro e w' ⟨rfl, x, rfl⟩)))
  go_loopw [5, 7, 12] (fun v _ i wr => ∃ (k : Nat) (y : World), k ≤ n ∧ i = .int .i64 k ∧ v = .string (sealT key l k) ∧ wr = ext w y) (fun _ _ i _ => n - (intOf i).toNat)
  case atStart => exact ⟨0, x, by omega, rfl, rfl, rfl⟩
  case round =>
    obtain ⟨k, y, hk, rfl, rfl, rfl⟩ := hrel
    by_cases hlt : k < n
    · obtain ⟨b, o, rfl, hb, hc⟩ := ha.open_ (by omega)
      have hck := hc k hlt
      rw [List.getD_eq_getElem?_getD] at hck
      have hv := hl _ (getD_mem 0 l k (by rw [Hlen.out]; exact hlt))
      have hs1 := hsz k (by rw [Hlen.out]; omega)
      have HV : Hid (sealT key l (k + 1) = sealT key l k ++ (⟨#[32]⟩ ++ numS (l[k]?.getD 0))) := rfl
      have hs2 := num10 hv.1 (by omega)
      clear hc hsz
      generalize l[k]?.getD 0 = v at *
      generalize sealT key l k = sk at *
      have e1 : ∀ w : World, (Op.stringOp .add ⟨#[32]⟩ (numS v)).run Tryd.prog w = .ok (.string (⟨#[32]⟩ ++ numS v)) w := fun w => run_string_add_sum w _ _ (by have h5 : ByteArray.size ⟨#[32]⟩ = 1 := rfl; omega)
      have e2 : ∀ w : World, (Op.stringOp .add sk (⟨#[32]⟩ ++ numS v)).run Tryd.prog w = .ok (.string (sk ++ (⟨#[32]⟩ ++ numS v))) w := fun w => run_string_add_sum w _ _ (by have h5 : ByteArray.size ⟨#[32]⟩ = 1 := rfl; rw [ByteArray.size_append]; omega)
      go_wp2_with ((go_at_call 87; ((with_reducible refine (l1Num_fuel 9 _ _ hv.1 (by omega) (by omega) (by omega)).mono ?_); rintro e w' ⟨rfl, x2, rfl⟩)))
      go_roundw
      case rel => exact ⟨k + 1, (ext_ex (w := w) (by repeat (first | exact Below.refl _ _ | assumption | refine bExt ?_ _ | refine bAlloc ?_ _ | refine bDrewN ?_ _ | refine bDrew ?_ | refine bSet ?_ (by first | exact Nat.le_refl _ | omega | (simp; done) | (simp; omega)) _))).choose, by omega, by go_num, by rw [HV.out], (ext_ex (w := w) (by repeat (first | exact Below.refl _ _ | assumption | refine bExt ?_ _ | refine bAlloc ?_ _ | refine bDrewN ?_ _ | refine bDrew ?_ | refine bSet ?_ (by first | exact Nat.le_refl _ | omega | (simp; done) | (simp; omega)) _))).choose_spec⟩
      case measure => simp [intOf]; omega
    · obtain rfl : k = n := by omega
      have HS : Hid (sealN key l = digest (sealT key l k)) := Lib.hid (by rw [sealN, Hlen.out])
      have hs1 := hsz k (by rw [Hlen.out]; exact Nat.le_refl _)
      have hsz2 : (sealT key l k).size ≤ 1099511627776 := by omega
      clear hsz hs1
      go_wp2_with ((go_at_call 94; ((with_reducible refine (chDigest_any _ _ hsz2).mono ?_); rintro e w' ⟨rfl, rfl⟩)))
      go_ret
      exact ⟨ret_int (by rw [HS.out]), y, rfl⟩
end Go.Proofs.YtpjaiihkgeabiaaDoor
