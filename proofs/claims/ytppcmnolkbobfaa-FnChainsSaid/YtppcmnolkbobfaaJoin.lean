/- Contracts of ReplaceRecord and JoinChains, in the program and in the reference. Conditions: lengths below 2^40. -/
import Derived.Test.YtppcmnolkbobfaaRecords
import Derived.Test.YtppcmnolkbobfaaLawKit
set_option linter.unusedVariables false
set_option linter.unusedSimpArgs false
set_option maxRecDepth 100000
namespace Go.Proofs.Ytppcmnolkbobfaa
open Go.ChangeShapes Go.WideShapes Go.ChangeAt Go.RowKit
/-- What a function returns that hands back strings, ints and a bool. -/
def RetTIB (w : World) (l : List ByteArray) (r : List Int) (ok : Bool) (e : Ending) (w' : World) : Prop := ∃ A n c B m d x, e = .returned (.tuple #[.slice A n c, .slice B m d, .bool ok]) ∧ w' = ext w x ∧ OwT w.heap.size (ext w x) A n c l ∧ OwI w.heap.size (ext w x) B m d r ∧ (blkOf A = none ∨ blkOf A ≠ blkOf B) ∧ (blkOf B = none ∨ blkOf B ≠ blkOf A)
theorem RetTIB.none_ {w : World} {ok : Bool} {W : World} (hb : Below w.heap.size w W) : RetTIB w [] [] ok (.returned (.tuple #[.slice none 0 0, .slice none 0 0, .bool ok])) W := by
  obtain ⟨x, rfl⟩ := ext_ex hb
  exact ⟨none, 0, 0, none, 0, 0, x, rfl, rfl, OwT.nil_, OwI.nil_, .inl rfl, .inl rfl⟩
theorem RetTIB.mk_ {w W W' : World} {A B : Option Addr} {n c m d : Nat} {l : List ByteArray} {r : List Int} {ok : Bool} (ho : OwT w.heap.size W A n c l) (hr : OwI W.heap.size W' B m d r) (hw : Below w.heap.size w W) (hb : Below W.heap.size W W') : RetTIB w l r ok (.returned (.tuple #[.slice A n c, .slice B m d, .bool ok])) W' := by
  have hbb : Below w.heap.size w W' := hw.trans (hb.mono hw.size)
  obtain ⟨x, rfl⟩ := ext_ex hbb
  exact ⟨A, n, c, B, m, d, x, rfl, rfl, ho.below hb, hr.mono hw.size, ne_before ho hr, ne_after ho hr⟩
def hasT (l : List ByteArray) (s : ByteArray) : Bool := l.any fun x => x.toList == s.toList
theorem hasT_hit {l : List ByteArray} {s : ByteArray} {k n : Nat} (hl : l.length = n) (hk : k < n) (h : ((l[k]?.getD ByteArray.empty).toList == s.toList) = true) : hasT l s = true :=
  List.any_eq_true.2 ⟨_, getD_mem _ _ _ (by omega), h⟩
theorem hasT_end {l : List ByteArray} {s : ByteArray} {n : Nat} (hl : l.length = n) (h : ∀ j, j < n → Hid (((l[j]?.getD ByteArray.empty).toList == s.toList) = false)) : hasT l s = false := by
  rw [hasT, List.any_eq_false]
  intro x hm
  obtain ⟨j, hj, rfl⟩ := List.mem_iff_getElem.1 hm
  have := (h j (by omega)).out
  simp only [hj, getElem?_pos, Option.getD_some] at this
  rw [this]; simp
theorem ne_more {l : List ByteArray} {s : ByteArray} {k : Nat} (h : ∀ j, j < k → Hid (((l[j]?.getD ByteArray.empty).toList == s.toList) = false)) (hn : ((l[k]?.getD ByteArray.empty).toList == s.toList) = false) : ∀ j, j < k + 1 → Hid (((l[j]?.getD ByteArray.empty).toList == s.toList) = false) := fun j hj => by
  by_cases e : j = k
  · subst e; exact hn
  · exact h j (by omega)
theorem beq_swap {a b : List UInt8} {v : Bool} (h : (a == b) = v) : (b == a) = v := by rw [← h]; exact Bool.eq_iff_iff.2 ⟨fun h => by simpa using (by simpa using h : b = a).symm, fun h => by simpa using (by simpa using h : a = b).symm⟩
theorem l1OwnS_any (w : World) (A : Option Addr) (n c : Nat) (l : List ByteArray) (ha : RdT w A n l) (hn : n ≤ 1099511627776) :
    Calls Try.prog 118 #[.slice A n c] w (RetT w l) := by
  have o0 := OwT.lit_ (Below.refl w.heap.size w) [] (by simp [maxLen]) #[] rfl
  have hn0 : 0 + n ≤ 1099511627776 := by omega
  go_enter Try.func118, Try.ntmps118
  go_wp2_with (at_builtin; (refine wpl_app_str w rfl _ _ rfl (some ⟨w.heap.size, 0, none⟩) 0 0 [] rfl o0 ?_ ?_ A n c l rfl ha ?_ hn0 ?_); (focus (repeat (first | exact Below.refl _ _ | assumption | refine bExt ?_ _ | refine bAlloc ?_ _ | refine bDrewN ?_ _ | refine bDrew ?_ | refine bSet ?_ (by first | exact Nat.le_refl _ | omega | (simp; done) | (simp; omega)) _))); (focus (repeat (first | exact Below.refl _ _ | assumption | refine bExt ?_ _ | refine bAlloc ?_ _ | refine bDrewN ?_ _ | refine bDrew ?_ | refine bSet ?_ (by first | exact Nat.le_refl _ | omega | (simp; done) | (simp; omega)) _))); (focus (repeat (first | exact Below.refl _ _ | assumption | refine bExt ?_ _ | refine bAlloc ?_ _ | refine bDrewN ?_ _ | refine bDrew ?_ | refine bSet ?_ (by first | exact Nat.le_refl _ | omega | (simp; done) | (simp; omega)) _))); intro A' c' y ho hg hd)
  go_ret
  exact RetT.mk_ (by simpa using ho) (Nat.le_refl _) (ext_below _ _)
def repOk (l : List ByteArray) (k : Int) (s : ByteArray) : Bool := recsB l && inB k 0 (l.length - 1) && decide (s.size ≤ 400)
def repL (l : List ByteArray) (k : Int) (s : ByteArray) : List ByteArray := if repOk l k s then l.set k.toNat s else []
def repC (l : List ByteArray) (k : Int) (s : ByteArray) : List Int := if repOk l k s then chainV (l.set k.toNat s) else []
theorem repL_len (l : List ByteArray) (k : Int) (s : ByteArray) : (repL l k s).length ≤ l.length := by
  unfold repL; split <;> simp
theorem repC_len (l : List ByteArray) (k : Int) (s : ByteArray) : (repC l k s).length ≤ l.length := by
  unfold repC; split
  · rw [chainV, linksTo_len]; simp
  · simp
theorem set_sz {l : List ByteArray} {j : Nat} {s : ByteArray} (h : ∀ x ∈ l, x.size ≤ 400) (hs : s.size ≤ 400) : ∀ x ∈ l.set j s, x.size ≤ 400 := fun x hx => by
  rcases List.mem_or_eq_of_mem_set hx with h1 | rfl
  · exact h x h1
  · exact hs
set_option maxHeartbeats 1000000 in
theorem specReplaceRecord_any (w : World) (A : Option Addr) (n c : Nat) (l : List ByteArray) (k : Int) (s : ByteArray) (ha : RdT w A n l) (hn : n ≤ 1099511627776) (hsz : ∀ s ∈ l, s.size ≤ 9223372036854775807) (hs : s.size ≤ 9223372036854775807) :
    Calls Try.prog 32 #[.slice A n c, .int .i64 k, .string s] w (RetTIB w (repL l k s) (repC l k s) (repOk l k s)) := by
  have Hl := Lib.hid ha.len
  unfold repL repC repOk
  rw [Hl.out]
  cases h1 : recsB l
  · simp only [Bool.false_and, if_neg (show ¬ false = true by decide)]
    go_enter Try.func32, Try.ntmps32
    go_wp2_with (first | (go_at_call 108; ((with_reducible refine (chRecords_any _ _ _ _ _ ha hn hsz).mono ?_); rintro e w' ⟨rfl, rfl⟩)) | (go_at_call 98; ((with_reducible refine (l1In_any _ _ _ _).mono ?_); rintro e w' ⟨rfl, rfl⟩)) | (go_at_call 114; ((with_reducible refine (chRecord_any _ _ (by omega)).mono ?_); rintro e w' ⟨rfl, rfl⟩)))
    go_ret3
    exact RetTIB.none_ (Below.refl _ _)
  cases h2 : inB k 0 (n - 1)
  · simp only [Bool.false_and, Bool.and_false, if_neg (show ¬ false = true by decide)]
    go_enter Try.func32, Try.ntmps32
    go_wp2_with (first | (go_at_call 108; ((with_reducible refine (chRecords_any _ _ _ _ _ ha hn hsz).mono ?_); rintro e w' ⟨rfl, rfl⟩)) | (go_at_call 98; ((with_reducible refine (l1In_any _ _ _ _).mono ?_); rintro e w' ⟨rfl, rfl⟩)) | (go_at_call 114; ((with_reducible refine (chRecord_any _ _ (by omega)).mono ?_); rintro e w' ⟨rfl, rfl⟩)))
    go_ret3
    exact RetTIB.none_ (Below.refl _ _)
  by_cases h3 : s.size ≤ 400
  · have hk := inB_iff.1 h2
    obtain ⟨j, rfl⟩ : ∃ j : Nat, k = j := ⟨k.toNat, by omega⟩
    have hj : j < n := by omega
    have hd3 : decide (s.size ≤ 400) = true := by simpa using h3
    rw [hd3]
    simp only [Bool.true_and, if_pos (show true = true by rfl), Int.toNat_natCast]
    have h4 := set_sz (j := j) (recsB_of h1).1 h3
    have hn2 : n ≤ 1099511627776 := hn
    have o0 := OwT.lit_ (Below.refl w.heap.size w) [] (by simp [maxLen]) #[] rfl
    have hn0 : 0 + n ≤ 1099511627776 := by omega
    go_enter Try.func32, Try.ntmps32
    go_wp2_with (first | (go_at_call 108; ((with_reducible refine (chRecords_any _ _ _ _ _ ha hn hsz).mono ?_); rintro e w' ⟨rfl, rfl⟩)) | (go_at_call 98; ((with_reducible refine (l1In_any _ _ _ _).mono ?_); rintro e w' ⟨rfl, rfl⟩)) | (go_at_call 114; ((with_reducible refine (chRecord_any _ _ (by omega)).mono ?_); rintro e w' ⟨rfl, rfl⟩)) | (go_at_call 118; ((with_reducible refine (l1OwnS_any _ _ _ _ _ ha hn).mono ?_); rintro e w' ⟨B, m, d, x, rfl, rfl, ob⟩; obtain rfl : m = n := ob.len.symm.trans Hl.out; obtain ⟨g, rfl, hbg, hzg⟩ := ob.form_ (by omega); have hcc := ob.cell_ j hj; have hff := ob.frozen_ j; have Hst := Lib.hid (ob.stored_ j s); (obtain ⟨u, hu⟩ : ∃ u, l[j]?.getD ByteArray.empty = u := ⟨_, rfl⟩); rw [hu] at hcc; clear hu)) | (go_at_call 109; ((with_reducible refine (chChain_any _ _ _ _ _ Hst.out.1.rd hn2 h4).mono ?_); rintro e w' ⟨D, p, q, z, rfl, rfl, od⟩)))
    go_ret3
    exact RetTIB.mk_ Hst.out.1 od (by repeat (first | exact Below.refl _ _ | assumption | refine bExt ?_ _ | refine bAlloc ?_ _ | refine bDrewN ?_ _ | refine bDrew ?_ | refine bSet ?_ (by first | exact Nat.le_refl _ | omega | (simp; done) | (simp; omega)) _)) (ext_below _ _)
  · have hd3 : decide (s.size ≤ 400) = false := by simpa using h3
    rw [hd3]
    simp only [Bool.false_and, Bool.and_false, if_neg (show ¬ false = true by decide)]
    go_enter Try.func32, Try.ntmps32
    go_wp2_with (first | (go_at_call 108; ((with_reducible refine (chRecords_any _ _ _ _ _ ha hn hsz).mono ?_); rintro e w' ⟨rfl, rfl⟩)) | (go_at_call 98; ((with_reducible refine (l1In_any _ _ _ _).mono ?_); rintro e w' ⟨rfl, rfl⟩)) | (go_at_call 114; ((with_reducible refine (chRecord_any _ _ (by omega)).mono ?_); rintro e w' ⟨rfl, rfl⟩)))
    go_ret3
    exact RetTIB.none_ (Below.refl _ _)
set_option maxHeartbeats 1000000 in
theorem implReplaceRecord_any (w : World) (A : Option Addr) (n c : Nat) (l : List ByteArray) (k : Int) (s : ByteArray) (ha : RdT w A n l) (hn : n ≤ 1099511627776) (hsz : ∀ s ∈ l, s.size ≤ 9223372036854775807) (hs : s.size ≤ 9223372036854775807) :
    Calls Try.prog 31 #[.slice A n c, .int .i64 k, .string s] w (RetTIB w (repL l k s) (repC l k s) (repOk l k s)) := by
  have Hl := Lib.hid ha.len
  unfold repL repC repOk
  rw [Hl.out]
  cases h1 : recsB l
  · simp only [Bool.false_and, if_neg (show ¬ false = true by decide)]
    go_enter Try.func31, Try.ntmps31
    go_wp2_with (first | (go_at_call 106; ((with_reducible refine (areRecords_any _ _ _ _ _ ha hn hsz).mono ?_); rintro e w' ⟨rfl, rfl⟩)) | (go_at_call 95; ((with_reducible refine (within_any _ _ _ _).mono ?_); rintro e w' ⟨rfl, rfl⟩)))
    go_ret3
    exact RetTIB.none_ (Below.refl _ _)
  cases h2 : inB k 0 (n - 1)
  · simp only [Bool.false_and, Bool.and_false, if_neg (show ¬ false = true by decide)]
    go_enter Try.func31, Try.ntmps31
    go_wp2_with (first | (go_at_call 106; ((with_reducible refine (areRecords_any _ _ _ _ _ ha hn hsz).mono ?_); rintro e w' ⟨rfl, rfl⟩)) | (go_at_call 95; ((with_reducible refine (within_any _ _ _ _).mono ?_); rintro e w' ⟨rfl, rfl⟩)))
    go_ret3
    exact RetTIB.none_ (Below.refl _ _)
  by_cases h3 : s.size ≤ 400
  · have hk := inB_iff.1 h2
    obtain ⟨j, rfl⟩ : ∃ j : Nat, k = j := ⟨k.toNat, by omega⟩
    have hj : j < n := by omega
    have hd3 : decide (s.size ≤ 400) = true := by simpa using h3
    rw [hd3]
    simp only [Bool.true_and, if_pos (show true = true by rfl), Int.toNat_natCast]
    have h4 := set_sz (j := j) (recsB_of h1).1 h3
    have hn2 : n ≤ 1099511627776 := hn
    have o0 := OwT.lit_ (Below.refl w.heap.size w) [] (by simp [maxLen]) #[] rfl
    have hn0 : 0 + n ≤ 1099511627776 := by omega
    go_enter Try.func31, Try.ntmps31
    go_wp2_with (first | (go_at_call 106; ((with_reducible refine (areRecords_any _ _ _ _ _ ha hn hsz).mono ?_); rintro e w' ⟨rfl, rfl⟩)) | (go_at_call 95; ((with_reducible refine (within_any _ _ _ _).mono ?_); rintro e w' ⟨rfl, rfl⟩)) | (at_builtin; (refine wpl_app_str w rfl _ _ rfl (some ⟨w.heap.size, 0, none⟩) 0 0 [] rfl o0 ?_ ?_ A n c l rfl ha ?_ hn0 ?_); (focus (repeat (first | exact Below.refl _ _ | assumption | refine bExt ?_ _ | refine bAlloc ?_ _ | refine bDrewN ?_ _ | refine bDrew ?_ | refine bSet ?_ (by first | exact Nat.le_refl _ | omega | (simp; done) | (simp; omega)) _))); (focus (repeat (first | exact Below.refl _ _ | assumption | refine bExt ?_ _ | refine bAlloc ?_ _ | refine bDrewN ?_ _ | refine bDrew ?_ | refine bSet ?_ (by first | exact Nat.le_refl _ | omega | (simp; done) | (simp; omega)) _))); (focus (repeat (first | exact Below.refl _ _ | assumption | refine bExt ?_ _ | refine bAlloc ?_ _ | refine bDrewN ?_ _ | refine bDrew ?_ | refine bSet ?_ (by first | exact Nat.le_refl _ | omega | (simp; done) | (simp; omega)) _))); intro B d x ob hg hd; rw [List.nil_append, Nat.zero_add] at ob; rw [Nat.zero_add]; clear hg hd; obtain ⟨g, rfl, hbg, hzg⟩ := ob.form_ (by omega); have hcc := ob.cell_ j hj; have hff := ob.frozen_ j; have Hst := Lib.hid (ob.stored_ j s); (obtain ⟨u, hu⟩ : ∃ u, l[j]?.getD ByteArray.empty = u := ⟨_, rfl⟩); rw [hu] at hcc; clear hu) | (go_at_call 107; ((with_reducible refine (chainOf_any _ _ _ _ _ Hst.out.1.rd hn2 h4).mono ?_); rintro e w' ⟨D, p, q, z, rfl, rfl, od⟩)))
    go_ret3
    exact RetTIB.mk_ Hst.out.1 od (by repeat (first | exact Below.refl _ _ | assumption | refine bExt ?_ _ | refine bAlloc ?_ _ | refine bDrewN ?_ _ | refine bDrew ?_ | refine bSet ?_ (by first | exact Nat.le_refl _ | omega | (simp; done) | (simp; omega)) _)) (ext_below _ _)
  · have hd3 : decide (s.size ≤ 400) = false := by simpa using h3
    rw [hd3]
    simp only [Bool.false_and, Bool.and_false, if_neg (show ¬ false = true by decide)]
    go_enter Try.func31, Try.ntmps31
    go_wp2_with (first | (go_at_call 106; ((with_reducible refine (areRecords_any _ _ _ _ _ ha hn hsz).mono ?_); rintro e w' ⟨rfl, rfl⟩)) | (go_at_call 95; ((with_reducible refine (within_any _ _ _ _).mono ?_); rintro e w' ⟨rfl, rfl⟩)))
    go_ret3
    exact RetTIB.none_ (Below.refl _ _)
def joinTo (a b : List ByteArray) (k : Nat) : List ByteArray := a ++ (b.take k).filter fun s => !hasT a s
def joinOk (a b : List ByteArray) : Bool := recsB a && recsB b && decide ((joinTo a b b.length).length ≤ 40)
def joinL (a b : List ByteArray) : List ByteArray := if joinOk a b then joinTo a b b.length else []
def joinC (a b : List ByteArray) : List Int := if joinOk a b then chainV (joinTo a b b.length) else []
theorem joinL_len (a b : List ByteArray) : (joinL a b).length ≤ 40 := by
  unfold joinL; split
  · rename_i h; simp only [joinOk, Bool.and_eq_true, decide_eq_true_eq] at h; exact h.2
  · simp
theorem joinC_len (a b : List ByteArray) : (joinC a b).length ≤ 40 := by
  unfold joinC; split
  · rename_i h; simp only [joinOk, Bool.and_eq_true, decide_eq_true_eq] at h; rw [chainV, linksTo_len]; exact h.2
  · simp
theorem joinTo_zero (a b : List ByteArray) : joinTo a b 0 = a := by simp [joinTo]
theorem joinTo_len (a b : List ByteArray) (k : Nat) : (joinTo a b k).length ≤ a.length + k := by
  have := List.length_filter_le (fun s => !hasT a s) (b.take k)
  simp only [joinTo, List.length_append]
  have h2 : (b.take k).length ≤ k := by simp; omega
  omega
theorem joinTo_has {a b : List ByteArray} {k : Nat} (hk : k < b.length) (h : hasT a (b[k]?.getD ByteArray.empty) = true) : joinTo a b (k + 1) = joinTo a b k := by
  rw [joinTo, joinTo, take_succ_getD ByteArray.empty b k hk, List.filter_append]; simp [h]
theorem joinTo_new {a b : List ByteArray} {k : Nat} (hk : k < b.length) (h : hasT a (b[k]?.getD ByteArray.empty) = false) : joinTo a b (k + 1) = joinTo a b k ++ [b[k]?.getD ByteArray.empty] := by
  rw [joinTo, joinTo, take_succ_getD ByteArray.empty b k hk, List.filter_append]; simp [h]
theorem joinTo_sz {a b : List ByteArray} (ha : ∀ x ∈ a, x.size ≤ 400) (hb : ∀ x ∈ b, x.size ≤ 400) (k : Nat) : ∀ x ∈ joinTo a b k, x.size ≤ 400 := fun x hx => by
  rcases List.mem_append.1 hx with h | h
  · exact ha x h
  · exact hb x (List.mem_of_mem_take (List.mem_filter.1 h).1)
theorem recsB_sz {l : List ByteArray} (h : ∀ x ∈ l, x.size ≤ 400) : recsB l = decide (l.length ≤ 40) := by
  have : (l.all fun s => decide (s.size ≤ 400)) = true := List.all_eq_true.2 fun x hx => by simpa using h x hx
  rw [recsB, this, Bool.true_and]
end Go.Proofs.Ytppcmnolkbobfaa
