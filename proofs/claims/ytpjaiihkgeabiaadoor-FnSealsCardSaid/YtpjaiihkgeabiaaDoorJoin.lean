/- Contracts of ReplaceRecord and JoinChains, in the program and in the reference. Conditions: lengths below 2^40. -/
import Derived.Test.YtpjaiihkgeabiaaDoorRecords
import Derived.Test.YtpjaiihkgeabiaaDoorLawKit
set_option linter.unusedVariables false
set_option linter.unusedSimpArgs false
set_option maxRecDepth 100000
namespace Go.Proofs.YtpjaiihkgeabiaaDoor
open Go.ChangeShapes Go.WideShapes Go.ChangeAt Go.RowKit
/-- What a function returns that hands back strings, ints and a bool. -/
def RetTIB (w : World) (l : List ByteArray) (r : List Int) (ok : Bool) (e : Ending) (w' : World) : Prop := ∃ A n c B m d x, e = .returned (.tuple #[.slice A n c, .slice B m d, .bool ok]) ∧ w' = ext w x ∧ OwT w.heap.size (ext w x) A n c l ∧ OwI w.heap.size (ext w x) B m d r ∧ (blkOf A = none ∨ blkOf A ≠ blkOf B) ∧ (blkOf B = none ∨ blkOf B ≠ blkOf A)
theorem RetTIB.none_ {w : World} {ok : Bool} {W : World} (hb : Below w.heap.size w W) : RetTIB w [] [] ok (.returned (.tuple #[.slice none 0 0, .slice none 0 0, .bool ok])) W := by
  obtain ⟨x, rfl⟩ := ext_ex hb
  exact ⟨none, 0, 0, none, 0, 0, x, rfl, rfl, OwT.nil_, OwI.nil_, .inl rfl, .inl rfl⟩
theorem RetTIB.mk_ {w W W' : World} {A B : Option Addr} {n c m d : Nat} {l : List ByteArray} {r : List Int} {ok : Bool} (ho : OwT w.heap.size W A n c l) (hr : OwI W.heap.size W' B m d r) (hw : Below w.heap.size w W) (hb : Below W.heap.size W W') : RetTIB w l r ok (.returned (.tuple #[.slice A n c, .slice B m d, .bool ok])) W' := by
  have hbb : Below w.heap.size w W' := hw.trans (hb.mono hw.size)
  obtain ⟨x, rfl⟩ := ext_ex hbb
  exact ⟨A, n, c, B, m, d, x, rfl, rfl, ho.below hb, hr.mono hw.size, ne_before ho hr, ne_after ho hr⟩
def hasT (l : List ByteArray) (s : ByteArray) : Bool := l.any fun x => x.toList == s.toList
theorem hasT_hit {l : List ByteArray} {s : ByteArray} {k n : Nat} (hl : l.length = n) (hk : k < n) (h : ((l[k]?.getD ByteArray.empty).toList == s.toList) = true) : hasT l s = true :=
  List.any_eq_true.2 ⟨_, getD_mem _ _ _ (by omega), h⟩
theorem hasT_end {l : List ByteArray} {s : ByteArray} {n : Nat} (hl : l.length = n) (h : ∀ j, j < n → Hid (((l[j]?.getD ByteArray.empty).toList == s.toList) = false)) : hasT l s = false := by
  rw [hasT, List.any_eq_false]
  intro x hm
  obtain ⟨j, hj, rfl⟩ := List.mem_iff_getElem.1 hm
  have := (h j (by omega)).out
  simp only [hj, getElem?_pos, Option.getD_some] at this
  rw [this]; simp
theorem ne_more {l : List ByteArray} {s : ByteArray} {k : Nat} (h : ∀ j, j < k → Hid (((l[j]?.getD ByteArray.empty).toList == s.toList) = false)) (hn : ((l[k]?.getD ByteArray.empty).toList == s.toList) = false) : ∀ j, j < k + 1 → Hid (((l[j]?.getD ByteArray.empty).toList == s.toList) = false) := fun j hj => by
  by_cases e : j = k
  · subst e; exact hn
  · exact h j (by omega)
theorem beq_swap {a b : List UInt8} {v : Bool} (h : (a == b) = v) : (b == a) = v := by rw [← h]; exact Bool.eq_iff_iff.2 ⟨fun h => by simpa using (by simpa using h : b = a).symm, fun h => by simpa using (by simpa using h : a = b).symm⟩
theorem l1OwnS_any (w : World) (A : Option Addr) (n c : Nat) (l : List ByteArray) (ha : RdT w A n l) (hn : n ≤ 1099511627776) :
    Calls Tryd.prog 63 #[.slice A n c] w (RetT w l) := by
  have o0 := OwT.lit_ (Below.refl w.heap.size w) [] (by simp [maxLen]) #[] rfl
  have hn0 : 0 + n ≤ 1099511627776 := by omega
  go_enter Tryd.func63, Tryd.ntmps63
  go_wp2_with (at_builtin; (refine wpl_app_str w rfl _ _ rfl (some ⟨w.heap.size, 0, none⟩) 0 0 [] rfl o0 ?_ ?_ A n c l rfl ha ?_ hn0 ?_); (focus (repeat (first | exact Below.refl _ _ | assumption | refine bExt ?_ _ | refine bAlloc ?_ _ | refine bDrewN ?_ _ | refine bDrew ?_ | refine bSet ?_ (by first | exact Nat.le_refl _ | omega | (simp; done) | (simp; omega)) _))); (focus (repeat (first | exact Below.refl _ _ | assumption | refine bExt ?_ _ | refine bAlloc ?_ _ | refine bDrewN ?_ _ | refine bDrew ?_ | refine bSet ?_ (by first | exact Nat.le_refl _ | omega | (simp; done) | (simp; omega)) _))); (focus (repeat (first | exact Below.refl _ _ | assumption | refine bExt ?_ _ | refine bAlloc ?_ _ | refine bDrewN ?_ _ | refine bDrew ?_ | refine bSet ?_ (by first | exact Nat.le_refl _ | omega | (simp; done) | (simp; omega)) _))); intro A' c' y ho hg hd)
  go_ret
  exact RetT.mk_ (by simpa using ho) (Nat.le_refl _) (ext_below _ _)
set_option maxHeartbeats 400000 in
theorem l1HasS_any (w : World) (A : Option Addr) (n c : Nat) (l : List ByteArray) (s : ByteArray) (ha : RdT w A n l) (hn : n ≤ 1099511627776) :
    Calls Tryd.prog 64 #[.slice A n c, .string s] w fun e w' => e = .returned (.bool (hasT l s)) ∧ w = w' := by
  have Hl := Lib.hid ha.len
  go_enter Tryd.func64, Tryd.ntmps64
  go_wp2
  go_loop [6, 9] (fun _ i => ∃ k : Nat, k ≤ n ∧ i = .int .i64 k ∧ ∀ j, j < k → Hid (((l[j]?.getD ByteArray.empty).toList == s.toList) = false)) (fun _ i => n - (intOf i).toNat)
  case atStart => exact ⟨0, by omega, rfl, fun j hj => absurd hj (by omega)⟩
  case round =>
    obtain ⟨k, hk, rfl, hj⟩ := hrel
    by_cases hlt : k < n
    · obtain ⟨b, off, rfl, hb, hc⟩ := ha.open_ (by omega)
      have hck := hc k hlt
      have HM : Hid (((l[k]?.getD ByteArray.empty).toList == s.toList) = false → ∀ j, j < k + 1 → Hid (((l[j]?.getD ByteArray.empty).toList == s.toList) = false)) := fun h => ne_more hj h
      have HH : Hid (((l[k]?.getD ByteArray.empty).toList == s.toList) = true → hasT l s = true) := fun h => hasT_hit Hl.out hlt h
      clear hc hj
      generalize l[k]?.getD ByteArray.empty = sk at *
      cases h4 : sk.toList == s.toList
      · have h4' := beq_swap h4
        go_wp2
        go_round
        case rel => exact ⟨k + 1, by omega, by go_num, HM.out h4⟩
        case measure => simp [intOf]; omega
      · have Hv := Lib.hid (HH.out h4)
        have h4' := beq_swap h4
        go_wp2
        go_ret
        exact ⟨ret_bool Hv.out.symm, rfl⟩
    · have Hv := Lib.hid (hasT_end Hl.out (fun j hjn => hj j (by omega)))
      clear hj
      go_wp2
      go_ret
      exact ⟨ret_bool Hv.out.symm, rfl⟩
set_option maxHeartbeats 400000 in
theorem indexS_any (w : World) (A : Option Addr) (n c : Nat) (l : List ByteArray) (s : ByteArray) (ha : RdT w A n l) (hn : n ≤ 1099511627776) :
    Calls Tryd.prog 96 #[.slice A n c, .string s] w fun e w' => ∃ v : Int, e = .returned (.int .i64 v) ∧ Hid (hasT l s = decide (0 ≤ v)) ∧ w = w' := by
  have Hl := Lib.hid ha.len
  go_enter Tryd.func96, Tryd.ntmps96
  go_wp2
  go_loop [5, 8] (fun _ i => ∃ k : Nat, k ≤ n ∧ i = .int .i64 k ∧ ∀ j, j < k → Hid (((l[j]?.getD ByteArray.empty).toList == s.toList) = false)) (fun _ i => n - (intOf i).toNat)
  case atStart => exact ⟨0, by omega, rfl, fun j hj => absurd hj (by omega)⟩
  case round =>
    obtain ⟨k, hk, rfl, hj⟩ := hrel
    by_cases hlt : k < n
    · obtain ⟨b, off, rfl, hb, hc⟩ := ha.open_ (by omega)
      have hck := hc k hlt
      have HM : Hid (((l[k]?.getD ByteArray.empty).toList == s.toList) = false → ∀ j, j < k + 1 → Hid (((l[j]?.getD ByteArray.empty).toList == s.toList) = false)) := fun h => ne_more hj h
      have HH : Hid (((l[k]?.getD ByteArray.empty).toList == s.toList) = true → hasT l s = true) := fun h => hasT_hit Hl.out hlt h
      clear hc hj
      generalize l[k]?.getD ByteArray.empty = sk at *
      cases h4 : sk.toList == s.toList
      · have h4' := beq_swap h4
        go_wp2
        go_round
        case rel => exact ⟨k + 1, by omega, by go_num, HM.out h4⟩
        case measure => simp [intOf]; omega
      · have Hv := Lib.hid (HH.out h4)
        have h4' := beq_swap h4
        go_wp2
        go_ret
        exact ⟨_, rfl, (by unfold Hid; rw [Hv.out]; simp), rfl⟩
    · have Hv := Lib.hid (hasT_end Hl.out (fun j hjn => hj j (by omega)))
      clear hj
      go_wp2
      go_ret
      exact ⟨_, rfl, (by unfold Hid; rw [Hv.out]; simp), rfl⟩
theorem containsS_any (w : World) (A : Option Addr) (n c : Nat) (l : List ByteArray) (s : ByteArray) (ha : RdT w A n l) (hn : n ≤ 1099511627776) :
    Calls Tryd.prog 60 #[.slice A n c, .string s] w fun e w' => e = .returned (.bool (hasT l s)) ∧ w = w' := by
  go_enter Tryd.func60, Tryd.ntmps60
  go_wp2_with (go_at_call 96; ((with_reducible refine (indexS_any _ _ _ _ _ _ ha hn).mono ?_); rintro e w' ⟨v, rfl, Hv, rfl⟩))
  go_ret
  exact ⟨ret_bool (by rw [Hv.out]), rfl⟩
def repOk (l : List ByteArray) (k : Int) (s : ByteArray) : Bool := recsB l && inB k 0 (l.length - 1) && decide (s.size ≤ 400)
def repL (l : List ByteArray) (k : Int) (s : ByteArray) : List ByteArray := if repOk l k s then l.set k.toNat s else []
def repC (l : List ByteArray) (k : Int) (s : ByteArray) : List Int := if repOk l k s then chainV (l.set k.toNat s) else []
theorem repL_len (l : List ByteArray) (k : Int) (s : ByteArray) : (repL l k s).length ≤ l.length := by
  unfold repL; split <;> simp
theorem repC_len (l : List ByteArray) (k : Int) (s : ByteArray) : (repC l k s).length ≤ l.length := by
  unfold repC; split
  · rw [chainV, linksTo_len]; simp
  · simp
theorem set_sz {l : List ByteArray} {j : Nat} {s : ByteArray} (h : ∀ x ∈ l, x.size ≤ 400) (hs : s.size ≤ 400) : ∀ x ∈ l.set j s, x.size ≤ 400 := fun x hx => by
  rcases List.mem_or_eq_of_mem_set hx with h1 | rfl
  · exact h x h1
  · exact hs
def joinTo (a b : List ByteArray) (k : Nat) : List ByteArray := a ++ (b.take k).filter fun s => !hasT a s
def joinOk (a b : List ByteArray) : Bool := recsB a && recsB b && decide ((joinTo a b b.length).length ≤ 40)
def joinL (a b : List ByteArray) : List ByteArray := if joinOk a b then joinTo a b b.length else []
def joinC (a b : List ByteArray) : List Int := if joinOk a b then chainV (joinTo a b b.length) else []
theorem joinL_len (a b : List ByteArray) : (joinL a b).length ≤ 40 := by
  unfold joinL; split
  · rename_i h; simp only [joinOk, Bool.and_eq_true, decide_eq_true_eq] at h; exact h.2
  · simp
theorem joinC_len (a b : List ByteArray) : (joinC a b).length ≤ 40 := by
  unfold joinC; split
  · rename_i h; simp only [joinOk, Bool.and_eq_true, decide_eq_true_eq] at h; rw [chainV, linksTo_len]; exact h.2
  · simp
theorem joinTo_zero (a b : List ByteArray) : joinTo a b 0 = a := by simp [joinTo]
theorem joinTo_len (a b : List ByteArray) (k : Nat) : (joinTo a b k).length ≤ a.length + k := by
  have := List.length_filter_le (fun s => !hasT a s) (b.take k)
  simp only [joinTo, List.length_append]
  have h2 : (b.take k).length ≤ k := by simp; omega
  omega
theorem joinTo_has {a b : List ByteArray} {k : Nat} (hk : k < b.length) (h : hasT a (b[k]?.getD ByteArray.empty) = true) : joinTo a b (k + 1) = joinTo a b k := by
  rw [joinTo, joinTo, take_succ_getD ByteArray.empty b k hk, List.filter_append]; simp [h]
theorem joinTo_new {a b : List ByteArray} {k : Nat} (hk : k < b.length) (h : hasT a (b[k]?.getD ByteArray.empty) = false) : joinTo a b (k + 1) = joinTo a b k ++ [b[k]?.getD ByteArray.empty] := by
  rw [joinTo, joinTo, take_succ_getD ByteArray.empty b k hk, List.filter_append]; simp [h]
theorem joinTo_sz {a b : List ByteArray} (ha : ∀ x ∈ a, x.size ≤ 400) (hb : ∀ x ∈ b, x.size ≤ 400) (k : Nat) : ∀ x ∈ joinTo a b k, x.size ≤ 400 := fun x hx => by
  rcases List.mem_append.1 hx with h | h
  · exact ha x h
  · exact hb x (List.mem_of_mem_take (List.mem_filter.1 h).1)
theorem recsB_sz {l : List ByteArray} (h : ∀ x ∈ l, x.size ≤ 400) : recsB l = decide (l.length ≤ 40) := by
  have : (l.all fun s => decide (s.size ≤ 400)) = true := List.all_eq_true.2 fun x hx => by simpa using h x hx
  rw [recsB, this, Bool.true_and]
set_option maxHeartbeats 2000000 in
theorem specJoinChains_any (w : World) (A B : Option Addr) (n m c d : Nat) (a b : List ByteArray) (ha : RdT w A n a) (hb : RdT w B m b) (hn : n ≤ 1099511627776) (hm : m ≤ 1099511627776) (hsa : ∀ s ∈ a, s.size ≤ 9223372036854775807) (hsb : ∀ s ∈ b, s.size ≤ 9223372036854775807) :
    Calls Tryd.prog 18 #[.slice A n c, .slice B m d] w (RetTIB w (joinL a b) (joinC a b) (joinOk a b)) := by
  have Ha := Lib.hid ha.len
  have Hb := Lib.hid hb.len
  have HLt : Hid (joinOk a b = true → joinL a b = joinTo a b b.length ∧ joinC a b = chainV (joinTo a b b.length)) := fun h => ⟨if_pos h, if_pos h⟩
  have HLf : Hid (joinOk a b = false → joinL a b = [] ∧ joinC a b = []) := fun h => ⟨if_neg (by rw [h]; decide), if_neg (by rw [h]; decide)⟩
  generalize joinL a b = L at *
  generalize joinC a b = C at *
  obtain ⟨ok, hok⟩ : ∃ ok, joinOk a b = ok := ⟨_, rfl⟩
  rw [hok] at HLt HLf ⊢
  unfold joinOk at hok
  cases h1 : recsB a
  · obtain rfl : ok = false := by rw [← hok, h1]; rfl
    obtain ⟨rfl, rfl⟩ := HLf.out rfl
    go_enter Tryd.func18, Tryd.ntmps18
    go_wp2_with (first | (go_at_call 62; ((with_reducible refine (chRecords_any _ _ _ _ _ ha hn hsa).mono ?_); rintro e w' ⟨rfl, rfl⟩)) | (go_at_call 62; ((with_reducible refine (chRecords_any _ _ _ _ _ hb hm hsb).mono ?_); rintro e w' ⟨rfl, rfl⟩)))
    go_ret3
    exact RetTIB.none_ (Below.refl _ _)
  cases h2 : recsB b
  · obtain rfl : ok = false := by rw [← hok, h2]; simp
    obtain ⟨rfl, rfl⟩ := HLf.out rfl
    go_enter Tryd.func18, Tryd.ntmps18
    go_wp2_with (first | (go_at_call 62; ((with_reducible refine (chRecords_any _ _ _ _ _ ha hn hsa).mono ?_); rintro e w' ⟨rfl, rfl⟩)) | (go_at_call 62; ((with_reducible refine (chRecords_any _ _ _ _ _ hb hm hsb).mono ?_); rintro e w' ⟨rfl, rfl⟩)))
    go_ret3
    exact RetTIB.none_ (Below.refl _ _)
  have Hok : Hid (decide ((joinTo a b b.length).length ≤ 40) = ok) := by unfold Hid; simpa [h1, h2] using hok
  clear hok
  obtain ⟨h4a, h5a⟩ := recsB_of h1
  obtain ⟨h4b, h5b⟩ := recsB_of h2
  rw [Ha.out] at h5a
  rw [Hb.out] at h5b
  have Hz := Lib.hid (joinTo_zero a b)
  have o0 := OwT.lit_ (Below.refl w.heap.size w) [] (by simp [maxLen]) #[] rfl
  have hn0 : 0 + n ≤ 1099511627776 := by omega
  go_enter Tryd.func18, Tryd.ntmps18
  go_wp2_with (first | (go_at_call 62; ((with_reducible refine (chRecords_any _ _ _ _ _ ha hn hsa).mono ?_); rintro e w' ⟨rfl, rfl⟩)) | (go_at_call 62; ((with_reducible refine (chRecords_any _ _ _ _ _ hb hm hsb).mono ?_); rintro e w' ⟨rfl, rfl⟩)) | (go_at_call 63; ((with_reducible refine (l1OwnS_any _ _ _ _ _ ha hn).mono ?_); rintro e w' ⟨C, p, q, x, rfl, rfl, ob⟩)))
  go_loopw [7, 9, 22] (fun v _ i wr => ∃ (k m' : Nat) (B' : Option Addr) (d' : Nat) (x : World), k ≤ m ∧ i = .int .i64 k ∧ v = .slice B' m' d' ∧ wr = ext w x ∧ OwT w.heap.size (ext w x) B' m' d' (joinTo a b k)) (fun _ _ i _ => m - (intOf i).toNat)
  case atStart => exact ⟨0, _, _, _, _, by omega, rfl, rfl, rfl, by rw [Hz.out]; exact ob⟩
  case round =>
    obtain ⟨k, m', B', d', x, hk, rfl, rfl, rfl, ho⟩ := hrel
    have hm' : m' ≤ 80 := by have h1 := ho.len; have h2 := joinTo_len a b k; have h3 := Ha.out; omega
    have hmb : m' ≤ 1099511627776 := by omega
    by_cases hlt : k < m
    · obtain ⟨b0, off, rfl, hb0, hc⟩ := hb.open_ (by omega)
      have hck := hc k hlt
      have HN : Hid (hasT a (b[k]?.getD ByteArray.empty) = false → joinTo a b (k + 1) = joinTo a b k ++ [b[k]?.getD ByteArray.empty]) := fun h => joinTo_new (by rw [Hb.out]; exact hlt) h
      have HH : Hid (hasT a (b[k]?.getD ByteArray.empty) = true → joinTo a b (k + 1) = joinTo a b k) := fun h => joinTo_has (by rw [Hb.out]; exact hlt) h
      clear hc Hok HLt HLf
      generalize b[k]?.getD ByteArray.empty = sk at *
      cases hh : hasT a sk
      · have HE := Lib.hid (HN.out hh)
        generalize joinTo a b k = cur at ho HE
        clear HN HH
        go_wp2_with (first | (go_at_call 64; ((with_reducible refine (l1HasS_any _ _ _ _ _ _ (ha.below (ext_below _ _)) hn).mono ?_); rintro e w' ⟨rfl, rfl⟩)) | (at_builtin; (refine wpl_push_str w _ _ _ ?_ rfl _ _ rfl B' m' d' _ rfl ho ?_ ?_ rfl hmb ?_); (focus (first | rfl | (simp; done))); (focus (repeat (first | exact Below.refl _ _ | assumption | refine bExt ?_ _ | refine bAlloc ?_ _ | refine bDrewN ?_ _ | refine bDrew ?_ | refine bSet ?_ (by first | exact Nat.le_refl _ | omega | (simp; done) | (simp; omega)) _))); (focus (repeat (first | exact Below.refl _ _ | assumption | refine bExt ?_ _ | refine bAlloc ?_ _ | refine bDrewN ?_ _ | refine bDrew ?_ | refine bSet ?_ (by first | exact Nat.le_refl _ | omega | (simp; done) | (simp; omega)) _))); intro A' c' y ho' hg hd))
        go_roundw
        case rel => exact ⟨k + 1, m' + 1, A', c', y, by omega, by go_num, rfl, rfl, by rw [HE.out]; exact ho'⟩
        case measure => simp [intOf]; omega
      · have HE := Lib.hid (HH.out hh)
        generalize joinTo a b k = cur at ho HE
        clear HN HH
        go_wp2_with (first | (go_at_call 64; ((with_reducible refine (l1HasS_any _ _ _ _ _ _ (ha.below (ext_below _ _)) hn).mono ?_); rintro e w' ⟨rfl, rfl⟩)))
        go_roundw
        case rel => exact ⟨k + 1, m', B', d', x, by omega, by go_num, rfl, rfl, by rw [HE.out]; exact ho⟩
        case measure => simp [intOf]; omega
    · have hkn : b.length = k := by have := Hb.out; omega
      rw [hkn] at Hok HLt
      have h4 := joinTo_sz h4a h4b k
      have hlen := ho.len
      have hrec := recsB_sz h4
      have h9 : ∀ s ∈ joinTo a b k, s.size ≤ 9223372036854775807 := fun s hs => Nat.le_trans (h4 s hs) (by omega)
      rw [Hok.out] at hrec
      have Hok2 := Hok.out
      rw [hlen] at Hok2
      clear Hok hkn
      generalize joinTo a b k = cur at *
      have Hlen := Lib.hid hlen
      clear hlen
      cases ok
      · have hq : ¬ m' ≤ 40 := by simpa using Hok2
        obtain ⟨rfl, rfl⟩ := HLf.out rfl
        clear Hok2
        go_wp2_with (first | fail | (go_at_call 62; ((with_reducible refine (chRecords_any _ _ _ _ _ ho.rd hmb h9).mono ?_); rintro e w' ⟨rfl, rfl⟩)))
        go_ret3
        exact RetTIB.none_ (ext_below _ _)
      · have hq : m' ≤ 40 := by simpa using Hok2
        obtain ⟨rfl, rfl⟩ := HLt.out rfl
        clear Hok2
        go_wp2_with (first | fail | (go_at_call 62; ((with_reducible refine (chRecords_any _ _ _ _ _ ho.rd hmb h9).mono ?_); rintro e w' ⟨rfl, rfl⟩)) | (go_at_call 65; ((with_reducible refine (chChain_any _ _ _ _ _ ho.rd hmb h4).mono ?_); rintro e w' ⟨D, p, q, z, rfl, rfl, od⟩)))
        go_ret3
        exact RetTIB.mk_ ho od (ext_below _ _) (ext_below _ _)
set_option maxHeartbeats 2000000 in
theorem implJoinChains_any (w : World) (A B : Option Addr) (n m c d : Nat) (a b : List ByteArray) (ha : RdT w A n a) (hb : RdT w B m b) (hn : n ≤ 1099511627776) (hm : m ≤ 1099511627776) (hsa : ∀ s ∈ a, s.size ≤ 9223372036854775807) (hsb : ∀ s ∈ b, s.size ≤ 9223372036854775807) :
    Calls Tryd.prog 17 #[.slice A n c, .slice B m d] w (RetTIB w (joinL a b) (joinC a b) (joinOk a b)) := by
  have Ha := Lib.hid ha.len
  have Hb := Lib.hid hb.len
  have HLt : Hid (joinOk a b = true → joinL a b = joinTo a b b.length ∧ joinC a b = chainV (joinTo a b b.length)) := fun h => ⟨if_pos h, if_pos h⟩
  have HLf : Hid (joinOk a b = false → joinL a b = [] ∧ joinC a b = []) := fun h => ⟨if_neg (by rw [h]; decide), if_neg (by rw [h]; decide)⟩
  generalize joinL a b = L at *
  generalize joinC a b = C at *
  obtain ⟨ok, hok⟩ : ∃ ok, joinOk a b = ok := ⟨_, rfl⟩
  rw [hok] at HLt HLf ⊢
  unfold joinOk at hok
  cases h1 : recsB a
  · obtain rfl : ok = false := by rw [← hok, h1]; rfl
    obtain ⟨rfl, rfl⟩ := HLf.out rfl
    go_enter Tryd.func17, Tryd.ntmps17
    go_wp2_with (first | (go_at_call 59; ((with_reducible refine (areRecords_any _ _ _ _ _ ha hn hsa).mono ?_); rintro e w' ⟨rfl, rfl⟩)) | (go_at_call 59; ((with_reducible refine (areRecords_any _ _ _ _ _ hb hm hsb).mono ?_); rintro e w' ⟨rfl, rfl⟩)))
    go_ret3
    exact RetTIB.none_ (Below.refl _ _)
  cases h2 : recsB b
  · obtain rfl : ok = false := by rw [← hok, h2]; simp
    obtain ⟨rfl, rfl⟩ := HLf.out rfl
    go_enter Tryd.func17, Tryd.ntmps17
    go_wp2_with (first | (go_at_call 59; ((with_reducible refine (areRecords_any _ _ _ _ _ ha hn hsa).mono ?_); rintro e w' ⟨rfl, rfl⟩)) | (go_at_call 59; ((with_reducible refine (areRecords_any _ _ _ _ _ hb hm hsb).mono ?_); rintro e w' ⟨rfl, rfl⟩)))
    go_ret3
    exact RetTIB.none_ (Below.refl _ _)
  have Hok : Hid (decide ((joinTo a b b.length).length ≤ 40) = ok) := by unfold Hid; simpa [h1, h2] using hok
  clear hok
  obtain ⟨h4a, h5a⟩ := recsB_of h1
  obtain ⟨h4b, h5b⟩ := recsB_of h2
  rw [Ha.out] at h5a
  rw [Hb.out] at h5b
  have Hz := Lib.hid (joinTo_zero a b)
  have o0 := OwT.lit_ (Below.refl w.heap.size w) [] (by simp [maxLen]) #[] rfl
  have hn0 : 0 + n ≤ 1099511627776 := by omega
  go_enter Tryd.func17, Tryd.ntmps17
  go_wp2_with (first | (go_at_call 59; ((with_reducible refine (areRecords_any _ _ _ _ _ ha hn hsa).mono ?_); rintro e w' ⟨rfl, rfl⟩)) | (go_at_call 59; ((with_reducible refine (areRecords_any _ _ _ _ _ hb hm hsb).mono ?_); rintro e w' ⟨rfl, rfl⟩)) | (at_builtin; (refine wpl_app_str w rfl _ _ rfl (some ⟨w.heap.size, 0, none⟩) 0 0 [] rfl o0 ?_ ?_ A n c a rfl ha ?_ hn0 ?_); (focus (repeat (first | exact Below.refl _ _ | assumption | refine bExt ?_ _ | refine bAlloc ?_ _ | refine bDrewN ?_ _ | refine bDrew ?_ | refine bSet ?_ (by first | exact Nat.le_refl _ | omega | (simp; done) | (simp; omega)) _))); (focus (repeat (first | exact Below.refl _ _ | assumption | refine bExt ?_ _ | refine bAlloc ?_ _ | refine bDrewN ?_ _ | refine bDrew ?_ | refine bSet ?_ (by first | exact Nat.le_refl _ | omega | (simp; done) | (simp; omega)) _))); (focus (repeat (first | exact Below.refl _ _ | assumption | refine bExt ?_ _ | refine bAlloc ?_ _ | refine bDrewN ?_ _ | refine bDrew ?_ | refine bSet ?_ (by first | exact Nat.le_refl _ | omega | (simp; done) | (simp; omega)) _))); intro C q x ob hg hd; rw [List.nil_append, Nat.zero_add] at ob; clear hg hd))
  go_loopw [7, 9, 23] (fun v _ i wr => ∃ (k m' : Nat) (B' : Option Addr) (d' : Nat) (x : World), k ≤ m ∧ i = .int .i64 k ∧ v = .slice B' m' d' ∧ wr = ext w x ∧ OwT w.heap.size (ext w x) B' m' d' (joinTo a b k)) (fun _ _ i _ => m - (intOf i).toNat)
  case atStart => exact ⟨0, _, _, _, _, by omega, rfl, rfl, rfl, by rw [Hz.out]; exact ob⟩
  case round =>
    obtain ⟨k, m', B', d', x, hk, rfl, rfl, rfl, ho⟩ := hrel
    have hm' : m' ≤ 80 := by have h1 := ho.len; have h2 := joinTo_len a b k; have h3 := Ha.out; omega
    have hmb : m' ≤ 1099511627776 := by omega
    by_cases hlt : k < m
    · obtain ⟨b0, off, rfl, hb0, hc⟩ := hb.open_ (by omega)
      have hck := hc k hlt
      have HN : Hid (hasT a (b[k]?.getD ByteArray.empty) = false → joinTo a b (k + 1) = joinTo a b k ++ [b[k]?.getD ByteArray.empty]) := fun h => joinTo_new (by rw [Hb.out]; exact hlt) h
      have HH : Hid (hasT a (b[k]?.getD ByteArray.empty) = true → joinTo a b (k + 1) = joinTo a b k) := fun h => joinTo_has (by rw [Hb.out]; exact hlt) h
      clear hc Hok HLt HLf
      generalize b[k]?.getD ByteArray.empty = sk at *
      cases hh : hasT a sk
      · have HE := Lib.hid (HN.out hh)
        generalize joinTo a b k = cur at ho HE
        clear HN HH
        go_wp2_with (first | (go_at_call 60; ((with_reducible refine (containsS_any _ _ _ _ _ _ (ha.below (ext_below _ _)) hn).mono ?_); rintro e w' ⟨rfl, rfl⟩)) | (at_builtin; (refine wpl_push_str w _ _ _ ?_ rfl _ _ rfl B' m' d' _ rfl ho ?_ ?_ rfl hmb ?_); (focus (first | rfl | (simp; done))); (focus (repeat (first | exact Below.refl _ _ | assumption | refine bExt ?_ _ | refine bAlloc ?_ _ | refine bDrewN ?_ _ | refine bDrew ?_ | refine bSet ?_ (by first | exact Nat.le_refl _ | omega | (simp; done) | (simp; omega)) _))); (focus (repeat (first | exact Below.refl _ _ | assumption | refine bExt ?_ _ | refine bAlloc ?_ _ | refine bDrewN ?_ _ | refine bDrew ?_ | refine bSet ?_ (by first | exact Nat.le_refl _ | omega | (simp; done) | (simp; omega)) _))); intro A' c' y ho' hg hd))
        go_roundw
        case rel => exact ⟨k + 1, m' + 1, A', c', y, by omega, by go_num, rfl, rfl, by rw [HE.out]; exact ho'⟩
        case measure => simp [intOf]; omega
      · have HE := Lib.hid (HH.out hh)
        generalize joinTo a b k = cur at ho HE
        clear HN HH
        go_wp2_with (first | (go_at_call 60; ((with_reducible refine (containsS_any _ _ _ _ _ _ (ha.below (ext_below _ _)) hn).mono ?_); rintro e w' ⟨rfl, rfl⟩)))
        go_roundw
        case rel => exact ⟨k + 1, m', B', d', x, by omega, by go_num, rfl, rfl, by rw [HE.out]; exact ho⟩
        case measure => simp [intOf]; omega
    · have hkn : b.length = k := by have := Hb.out; omega
      rw [hkn] at Hok HLt
      have h4 := joinTo_sz h4a h4b k
      have hlen := ho.len
      have hrec := recsB_sz h4
      have h9 : ∀ s ∈ joinTo a b k, s.size ≤ 9223372036854775807 := fun s hs => Nat.le_trans (h4 s hs) (by omega)
      rw [Hok.out] at hrec
      have Hok2 := Hok.out
      rw [hlen] at Hok2
      clear Hok hkn
      generalize joinTo a b k = cur at *
      have Hlen := Lib.hid hlen
      clear hlen
      cases ok
      · have hq : ¬ m' ≤ 40 := by simpa using Hok2
        obtain ⟨rfl, rfl⟩ := HLf.out rfl
        clear Hok2
        go_wp2_with (first | fail)
        go_ret3
        exact RetTIB.none_ (ext_below _ _)
      · have hq : m' ≤ 40 := by simpa using Hok2
        obtain ⟨rfl, rfl⟩ := HLt.out rfl
        clear Hok2
        go_wp2_with (first | fail | (go_at_call 61; ((with_reducible refine (chainOf_any _ _ _ _ _ ho.rd hmb h4).mono ?_); rintro e w' ⟨D, p, q, z, rfl, rfl, od⟩)))
        go_ret3
        exact RetTIB.mk_ ho od (ext_below _ _) (ext_below _ _)
end Go.Proofs.YtpjaiihkgeabiaaDoor
