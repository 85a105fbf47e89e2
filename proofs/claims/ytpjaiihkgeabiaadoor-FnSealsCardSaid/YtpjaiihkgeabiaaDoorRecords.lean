/- Contracts of the functions on records (strings) and their chains: areRecords, chainOf, FirstDamage, ReplaceRecord, JoinChains, in the program and in the reference. Conditions: lengths below 2^40. -/
import Derived.Test.YtpjaiihkgeabiaaDoorChain
import Derived.Test.YtpjaiihkgeabiaaDoorStrs
set_option linter.unusedVariables false
set_option linter.unusedSimpArgs false
set_option maxRecDepth 100000
namespace Go.Proofs.YtpjaiihkgeabiaaDoor
open Go.RowKit
section
variable {ops : Array Oper} {rest : List Oper} {o : Oper} {a : Act} {Q : Exit → Act → World → Prop}
/-- append(s, v): one string onto a row of the call's own. R: the world of reference, W: the world before the one-cell block of v was made. -/
theorem wpl_push_str (R W : World) (v : ByteArray) (gx : Nat) (hgx : gx = W.heap.size) (hgd : o.guard = none) (s x : Operand) (ho : o.op = .call { callee := .builtin .append, args := #[s, x], argTypes := #[37, 37] })
    (A : Option Addr) (n c : Nat) (l : List ByteArray) (hs : a.eval s = .slice A n c) {W₀ : World} (hown₀ : OwT R.heap.size W₀ A n c l) (hW₀ : Below W₀.heap.size W₀ W) (hR : Below R.heap.size R W)
    (hx : a.eval x = .slice (some ⟨gx, 0, none⟩) 1 1) (hn : n ≤ 1099511627776)
    (h : ∀ A' c' y, OwT R.heap.size (ext R y) A' (n + 1) c' (l ++ [v]) → W.grownBy (ext R y) (blkOf A) → (blkOf A' = blkOf A ∨ ∃ g, blkOf A' = some g ∧ W.heap.size < g) → wpList Tryd.prog ops Q rest (a.put o.dst (.slice A' (n + 1) c')) (ext R y)) :
    wpList Tryd.prog ops Q (o :: rest) a (W.alloc (.cells #[.string v] 9)) := by
  subst hgx
  have hown := hown₀.below hW₀
  obtain ⟨i0, hi0, hz0, hz1, hz2⟩ := info_parts string_info
  have hRw : Below R.heap.size R (W.alloc (.cells #[.string v] 9)) := bAlloc hR _
  have hown1 := hown.below (bAlloc (Below.refl W.heap.size W) (.cells #[.string v] 9))
  refine wpList_append_own_at _ hgd s x _ ho R.heap.size 9 i0 (.string ByteArray.empty) 1 16 Tryd.underlying37 hi0 hz0 hz1 hz2 rfl (by omega) (.slice A n c) n (l.map Value.string) hs hown1
    ⟨W.heap.size, 0, none⟩ 1 1 [.string v] hx rfl ?_ (by simp [Value.oneCell']) (by simp only [maxLen]; omega) (by omega) hRw.size ?_
  · intro j u hu
    match j with
    | 0 => simp at hu; subst hu; simp [Addr.add, go_sem]
    | j + 1 => simp at hu
  · intro v' w' hown' hg _ hd
    rw [ownBlock_slice] at hg hd
    have hBw : Below R.heap.size R w' := below_grown hRw hg (fun k hk => (hown1.blk hk).1)
    obtain ⟨y, rfl⟩ := ext_ex hBw
    rcases hown'.2 with ⟨_, h0⟩ | ⟨g', cap, cur, rfl, hrest⟩
    · omega
    · rw [ownBlock_slice] at hd
      refine h _ _ y ?_ ((World.grownBy_alloc W _ _).trans hg) ?_
      · have : (l ++ [v]).map Value.string = l.map Value.string ++ [.string v] := by simp
        unfold OwT Ow
        rw [this]
        exact hown'
      · rcases hd with hd | hd
        · exact .inl hd
        · exact .inr ⟨_, hd, by simp⟩
end

/-- append(s, source...) onto a row of strings of the call's own. -/
theorem wpl_app_str {ops : Array Oper} {rest : List Oper} {o : Oper} {a : Act} {Q : Exit → Act → World → Prop} (R : World) {W : World} (hgd : o.guard = none) (s x : Operand) (ho : o.op = .call { callee := .builtin .append, args := #[s, x], argTypes := #[37, 37] })
    (A : Option Addr) (n c : Nat) (l : List ByteArray) (hs : a.eval s = .slice A n c) {W₀ : World} (hown₀ : OwT R.heap.size W₀ A n c l) (hW₀ : Below W₀.heap.size W₀ W) (hR : Below R.heap.size R W)
    (B : Option Addr) (m d : Nat) (r : List ByteArray) (hx : a.eval x = .slice B m d) {W₁ : World} (hr₁ : RdT W₁ B m r) (hW₁ : Below W₁.heap.size W₁ W) (hn : n + m ≤ 1099511627776)
    (h : ∀ A' c' y, OwT R.heap.size (ext R y) A' (n + m) c' (l ++ r) → W.grownBy (ext R y) (blkOf A) → (blkOf A' = blkOf A ∨ blkOf A' = some W.heap.size) → wpList Tryd.prog ops Q rest (a.put o.dst (.slice A' (n + m) c')) (ext R y)) :
    wpList Tryd.prog ops Q (o :: rest) a W := by
  have hown := hown₀.below hW₀
  have hr := hr₁.below hW₁
  obtain ⟨i0, hi0, hz0, hz1, hz2⟩ := info_parts string_info
  obtain ⟨v', w', hrun, h2, h3, h4⟩ := run_append_rd (P := Tryd.prog) W R.heap.size 37 o.type 9 i0 (.string ByteArray.empty) 1 16 Tryd.underlying37 hi0 hz0 hz1 hz2 rfl (by omega) (.slice A n c) n (l.map Value.string) hown B m d (r.map Value.string) hr
    (by intro u hu; simp only [List.mem_map] at hu; obtain ⟨z, _, rfl⟩ := hu; rfl) (by simp only [maxLen]; omega) (by omega) hR.size
  refine wpList_plain hgd fun K hK => ?_
  unfold Oper.wp execOp
  simp only [ho, resolve, invoke, builtin, Sem.run_bind, Sem.run_pure, Result.andThen_ok, List.map_toArray, List.map_cons, List.map_nil, hs, hx, hrun]
  rw [ownBlock_slice] at h3 h4
  have hBw : Below R.heap.size R w' := below_grown hR h3 (fun k hk => (hown.blk hk).1)
  obtain ⟨y, rfl⟩ := ext_ex hBw
  have hm : l.map Value.string ++ r.map Value.string = (l ++ r).map Value.string := by simp
  rw [hm] at h2
  rcases h2.2 with ⟨hv, h0⟩ | ⟨g', cap, cur, hv, hrest⟩
  · subst hv
    rw [ownBlock_slice] at h4
    have e : Value.slice none 0 0 = .slice none (n + m) 0 := by rw [h0]
    rw [e] at h2 ⊢
    exact hK _ _ (h none 0 y h2 h3 h4)
  · subst hv
    rw [ownBlock_slice] at h4
    exact hK _ _ (h _ _ y h2 h3 h4)

theorem quiet_left {P : Program} {f : FuncId} {args : Array Value} {w : World} {n : Nat} {v : Value}
    (h : Calls P f args (w.drewN n) fun e w' => e = .returned v ∧ w.drewN n = w') : Calls P f args (w.drewN n) fun e w'' => e = .returned v ∧ ∃ m, w'' = w.drewN m :=
  h.mono fun _ _ ⟨he, hm⟩ => ⟨he, n, hm.symm⟩
def recsB (l : List ByteArray) : Bool := (l.all fun s => decide (s.size ≤ 400)) && decide (l.length ≤ 40)
theorem recsB_of {l : List ByteArray} (h : recsB l = true) : (∀ s ∈ l, s.size ≤ 400) ∧ l.length ≤ 40 := by
  simp only [recsB, Bool.and_eq_true, decide_eq_true_eq] at h
  exact ⟨fun s hs => by have := List.all_eq_true.1 h.1 s hs; simpa using this, h.2⟩
theorem recsB_no {l : List ByteArray} {k n : Nat} (hl : l.length = n) (hk : k < n) (h : ¬ (l[k]?.getD ByteArray.empty).size ≤ 400) : false = recsB l := by
  have := all_miss (P := fun s : ByteArray => decide (s.size ≤ 400)) ByteArray.empty (l := l) (k := k) (by omega) (by simpa using h)
  simp [recsB, this]
theorem recsB_end {l : List ByteArray} {k n : Nat} (hl : l.length = n) (hk : n ≤ k) (h : (l.take k).all (fun s => decide (s.size ≤ 400)) = true) : recsB l = decide (n ≤ 40) := by
  have := all_end h (by omega)
  simp [recsB, this, hl]
/-- The link behind the first k records. -/
def linkAt (l : List ByteArray) : Nat → Int
  | 0 => 0
  | k + 1 => linkV (linkAt l k) (l[k]?.getD ByteArray.empty)
def linksTo (l : List ByteArray) (k : Nat) : List Int := (List.range k).map fun i => linkAt l (i + 1)
def chainV (l : List ByteArray) : List Int := linksTo l l.length
theorem linkAt_bd (l : List ByteArray) (k : Nat) : 0 ≤ linkAt l k ∧ linkAt l k ≤ 1000002 := by
  cases k with
  | zero => simp [linkAt]
  | succ k => exact linkV_bd _ _
theorem linksTo_succ (l : List ByteArray) (k : Nat) : linksTo l (k + 1) = linksTo l k ++ [linkAt l (k + 1)] := by simp [linksTo, List.range_succ]
theorem linksTo_len (l : List ByteArray) (k : Nat) : (linksTo l k).length = k := by simp [linksTo]
set_option maxHeartbeats 400000 in
theorem chRecords_any (w : World) (A : Option Addr) (n c : Nat) (l : List ByteArray) (ha : RdT w A n l) (hn : n ≤ 1099511627776) (hsz : ∀ s ∈ l, s.size ≤ 9223372036854775807) :
    Calls Tryd.prog 62 #[.slice A n c] w fun e w' => e = .returned (.bool (recsB l)) ∧ w = w' := by
  have Hl := Lib.hid ha.len
  go_enter Tryd.func62, Tryd.ntmps62
  go_wp2
  go_loop [4, 7] (fun _ i => ∃ k : Nat, k ≤ n ∧ i = .int .i64 k ∧ Hid ((l.take k).all (fun s => decide (s.size ≤ 400)) = true)) (fun _ i => n - (intOf i).toNat)
  case atStart => exact ⟨0, by omega, rfl, rfl⟩
  case round =>
    obtain ⟨k, hk, rfl, HT⟩ := hrel
    by_cases hlt : k < n
    · obtain ⟨b, off, rfl, hb, hc⟩ := ha.open_ (by omega)
      have hck := hc k hlt
      have hsk := hsz _ (getD_mem ByteArray.empty l k (by rw [Hl.out]; exact hlt))
      clear hc
      have HSt : Hid ((l[k]?.getD ByteArray.empty).size ≤ 400 → (l.take (k + 1)).all (fun s => decide (s.size ≤ 400)) = true) := fun h => all_step ByteArray.empty (by rw [Hl.out]; exact hlt) HT.out (by simpa using h)
      have HNo : Hid (¬ (l[k]?.getD ByteArray.empty).size ≤ 400 → false = recsB l) := fun h => recsB_no Hl.out hlt h
      generalize l[k]?.getD ByteArray.empty = sk at *
      by_cases h4 : sk.size ≤ 400
      · have hd4 : decide (sk.size ≤ 400) = true := by simpa using h4
        go_wp2_with (go_at_call 69; ((with_reducible refine (chRecord_any _ _ (by omega)).mono ?_); rintro e w' ⟨rfl, rfl⟩))
        go_round
        case rel => exact ⟨k + 1, by omega, by go_num, HSt.out h4⟩
        case measure => simp [intOf]; omega
      · have hd4 : decide (sk.size ≤ 400) = false := by simpa using h4
        go_wp2_with (go_at_call 69; ((with_reducible refine (chRecord_any _ _ (by omega)).mono ?_); rintro e w' ⟨rfl, rfl⟩))
        go_ret
        exact ⟨ret_bool (HNo.out h4), rfl⟩
    · have Hend := Lib.hid (recsB_end Hl.out (show n ≤ k by omega) HT.out)
      go_wp2
      go_ret
      exact ⟨ret_bool (by rw [Hend.out]; simp; omega), rfl⟩
set_option maxHeartbeats 400000 in
theorem areRecords_any (w : World) (A : Option Addr) (n c : Nat) (l : List ByteArray) (ha : RdT w A n l) (hn : n ≤ 1099511627776) (hsz : ∀ s ∈ l, s.size ≤ 9223372036854775807) :
    Calls Tryd.prog 59 #[.slice A n c] w fun e w' => e = .returned (.bool (recsB l)) ∧ w = w' := by
  have Hl := Lib.hid ha.len
  go_enter Tryd.func59, Tryd.ntmps59
  go_wp2
  go_loop [4, 7] (fun _ i => ∃ k : Nat, k ≤ n ∧ i = .int .i64 k ∧ Hid ((l.take k).all (fun s => decide (s.size ≤ 400)) = true)) (fun _ i => n - (intOf i).toNat)
  case atStart => exact ⟨0, by omega, rfl, rfl⟩
  case round =>
    obtain ⟨k, hk, rfl, HT⟩ := hrel
    by_cases hlt : k < n
    · obtain ⟨b, off, rfl, hb, hc⟩ := ha.open_ (by omega)
      have hck := hc k hlt
      have hsk := hsz _ (getD_mem ByteArray.empty l k (by rw [Hl.out]; exact hlt))
      clear hc
      have HSt : Hid ((l[k]?.getD ByteArray.empty).size ≤ 400 → (l.take (k + 1)).all (fun s => decide (s.size ≤ 400)) = true) := fun h => all_step ByteArray.empty (by rw [Hl.out]; exact hlt) HT.out (by simpa using h)
      have HNo : Hid (¬ (l[k]?.getD ByteArray.empty).size ≤ 400 → false = recsB l) := fun h => recsB_no Hl.out hlt h
      generalize l[k]?.getD ByteArray.empty = sk at *
      by_cases h4 : sk.size ≤ 400
      · have hd4 : decide (sk.size ≤ 400) = true := by simpa using h4
        go_wp2
        go_round
        case rel => exact ⟨k + 1, by omega, by go_num, HSt.out h4⟩
        case measure => simp [intOf]; omega
      · have hd4 : decide (sk.size ≤ 400) = false := by simpa using h4
        go_wp2
        go_ret
        exact ⟨ret_bool (HNo.out h4), rfl⟩
    · have Hend := Lib.hid (recsB_end Hl.out (show n ≤ k by omega) HT.out)
      go_wp2
      go_ret
      exact ⟨ret_bool (by rw [Hend.out]; simp; omega), rfl⟩
set_option maxHeartbeats 1000000 in
theorem chChain_big (w : World) (A : Option Addr) (n c : Nat) (l : List ByteArray) (ha : RdT w A n l) (hn : n ≤ 1099511627776) (hsz : ∀ s ∈ l, s.size ≤ 1099511627776) :
    Calls Tryd.prog 65 #[.slice A n c] w (RetI w (chainV l)) := by
  have Hl := Lib.hid ha.len
  go_enter Tryd.func65, Tryd.ntmps65
  go_wp2
  go_loopw [3, 4, 6, 9] (fun v u _ i wr => ∃ (k : Nat) (B : Option Addr) (d : Nat) (x : World), k ≤ n ∧ i = .int .i64 k ∧ u = .int .i64 (linkAt l k) ∧ v = .slice B k d ∧ wr = ext w x ∧ OwI w.heap.size (ext w x) B k d (linksTo l k)) (fun _ _ _ i _ => n - (intOf i).toNat)
  case atStart => exact ⟨0, none, 0, _, by omega, rfl, rfl, rfl, ext_self w, OwI.nil_⟩
  case round =>
    obtain ⟨k, B, d, x, hk, rfl, rfl, rfl, rfl, ho⟩ := hrel
    by_cases hlt : k < n
    · obtain ⟨b, off, rfl, hb, hc⟩ := ha.open_ (by omega)
      have hck := hc k hlt
      have hsk := hsz _ (getD_mem ByteArray.empty l k (by rw [Hl.out]; exact hlt))
      have HL : Hid (linkAt l (k + 1) = linkV (linkAt l k) (l[k]?.getD ByteArray.empty)) := rfl
      have HS := Lib.hid (linksTo_succ l k)
      have hbd := linkAt_bd l k
      have hkb : k ≤ 1099511627776 := by omega
      clear hc
      generalize l[k]?.getD ByteArray.empty = sk at *
      generalize linkAt l k = la at *
      generalize linksTo l k = cur at ho HS
      go_wp2_with (first | (go_at_call 70; ((with_reducible refine (chNext_any _ _ _ (by omega) hbd.1 hbd.2).mono ?_); rintro e w' ⟨rfl, rfl⟩)) | (at_builtin; (refine wpl_push_int w _ _ _ ?_ rfl _ _ rfl B k d _ rfl ho ?_ ?_ rfl hkb ?_); (focus (first | rfl | (simp; done))); (focus (repeat (first | exact Below.refl _ _ | assumption | refine bExt ?_ _ | refine bAlloc ?_ _ | refine bDrewN ?_ _ | refine bDrew ?_ | refine bSet ?_ (by first | exact Nat.le_refl _ | omega | (simp; done) | (simp; omega)) _))); (focus (repeat (first | exact Below.refl _ _ | assumption | refine bExt ?_ _ | refine bAlloc ?_ _ | refine bDrewN ?_ _ | refine bDrew ?_ | refine bSet ?_ (by first | exact Nat.le_refl _ | omega | (simp; done) | (simp; omega)) _))); intro A' c' y ho' hg hd))
      go_roundw
      case rel => exact ⟨k + 1, A', c', y, by omega, by go_num, by rw [HL.out], rfl, rfl, by rw [HS.out, HL.out]; exact ho'⟩
      case measure => simp [intOf]; omega
    · have hkn := Lib.hid (show k = n by omega)
      go_wp2
      go_ret
      have e : chainV l = linksTo l k := by rw [chainV, Hl.out, hkn.out]
      rw [e]
      exact RetI.mk_ ho (Nat.le_refl _) (ext_below _ _)
theorem chChain_any (w : World) (A : Option Addr) (n c : Nat) (l : List ByteArray) (ha : RdT w A n l) (hn : n ≤ 1099511627776) (hsz : ∀ s ∈ l, s.size ≤ 400) :
    Calls Tryd.prog 65 #[.slice A n c] w (RetI w (chainV l)) := chChain_big w A n c l ha hn (fun s hs => Nat.le_trans (hsz s hs) (by omega))
set_option maxHeartbeats 1000000 in
theorem chainOf_any (w : World) (A : Option Addr) (n c : Nat) (l : List ByteArray) (ha : RdT w A n l) (hn : n ≤ 1099511627776) (hsz : ∀ s ∈ l, s.size ≤ 400) :
    Calls Tryd.prog 61 #[.slice A n c] w (RetI w (chainV l)) := by
  have Hl := Lib.hid ha.len
  go_enter Tryd.func61, Tryd.ntmps61
  go_wp2
  go_loopw [3, 4, 6, 10] (fun v u _ i wr => ∃ (k : Nat) (B : Option Addr) (d : Nat) (x : World), k ≤ n ∧ i = .int .i64 k ∧ u = .int .i64 (linkAt l k) ∧ v = .slice B k d ∧ wr = ext w x ∧ OwI w.heap.size (ext w x) B k d (linksTo l k)) (fun _ _ _ i _ => n - (intOf i).toNat)
  case atStart => obtain ⟨x, hx⟩ := ext_ex (bAlloc (Below.refl w.heap.size w) (.cells #[] 3)); exact ⟨0, _, 0, x, by omega, rfl, rfl, rfl, hx, by rw [← hx]; exact OwI.lit_ (Below.refl _ w) [] (by simp [maxLen]) #[] rfl⟩
  case round =>
    obtain ⟨k, B, d, x, hk, rfl, rfl, rfl, rfl, ho⟩ := hrel
    by_cases hlt : k < n
    · obtain ⟨b, off, rfl, hb, hc⟩ := ha.open_ (by omega)
      have hck := hc k hlt
      have hsk := hsz _ (getD_mem ByteArray.empty l k (by rw [Hl.out]; exact hlt))
      have HL : Hid (linkAt l (k + 1) = linkV (linkAt l k) (l[k]?.getD ByteArray.empty)) := rfl
      have HS := Lib.hid (linksTo_succ l k)
      have hbd := linkAt_bd l k
      have hkb : k ≤ 1099511627776 := by omega
      clear hc
      generalize l[k]?.getD ByteArray.empty = sk at *
      generalize linkAt l k = la at *
      generalize linksTo l k = cur at ho HS
      go_wp2_with (first | (go_at_call 66; ((with_reducible refine (linkOf_any _ _ _ (by omega) hbd.1 hbd.2).mono ?_); rintro e w' ⟨rfl, rfl⟩)) | (at_builtin; (refine wpl_push_int w _ _ _ ?_ rfl _ _ rfl B k d _ rfl ho ?_ ?_ rfl hkb ?_); (focus (first | rfl | (simp; done))); (focus (repeat (first | exact Below.refl _ _ | assumption | refine bExt ?_ _ | refine bAlloc ?_ _ | refine bDrewN ?_ _ | refine bDrew ?_ | refine bSet ?_ (by first | exact Nat.le_refl _ | omega | (simp; done) | (simp; omega)) _))); (focus (repeat (first | exact Below.refl _ _ | assumption | refine bExt ?_ _ | refine bAlloc ?_ _ | refine bDrewN ?_ _ | refine bDrew ?_ | refine bSet ?_ (by first | exact Nat.le_refl _ | omega | (simp; done) | (simp; omega)) _))); intro A' c' y ho' hg hd))
      go_roundw
      case rel => exact ⟨k + 1, A', c', y, by omega, by go_num, by rw [HL.out], rfl, rfl, by rw [HS.out, HL.out]; exact ho'⟩
      case measure => simp [intOf]; omega
    · have hkn := Lib.hid (show k = n by omega)
      go_wp2
      go_ret
      have e : chainV l = linksTo l k := by rw [chainV, Hl.out, hkn.out]
      rw [e]
      exact RetI.mk_ ho (Nat.le_refl _) (ext_below _ _)
def chainR (l : List ByteArray) : List Int := if recsB l then chainV l else []
theorem chainR_len (l : List ByteArray) : (chainR l).length ≤ 40 := by
  unfold chainR
  split
  · rename_i h; rw [chainV, linksTo_len]; exact (recsB_of h).2
  · simp
/-- Is the link at place j the one that the records give? -/
def beforeAt (ch : List Int) (j : Nat) : Int := if j = 0 then 0 else ch[j - 1]?.getD 0
def badAt (l : List ByteArray) (ch : List Int) (j : Nat) : Bool := ch[j]?.getD 0 != linkV (beforeAt ch j) (l[j]?.getD ByteArray.empty)
def dmgOk (l : List ByteArray) (ch : List Int) : Bool := recsB l && chainB ch && decide (l.length = ch.length)
def dmgV (l : List ByteArray) (ch : List Int) : Int := if dmgOk l ch then (if (firstIdx (badAt l ch) l.length).2 then ((firstIdx (badAt l ch) l.length).1 : Int) else l.length) else 0
theorem dmg_hit {l : List ByteArray} {ch : List Int} {k n : Nat} (hl : l.length = n) (h : dmgOk l ch = true) (hk : k < n) (hb : ∀ j, j < k → Hid (badAt l ch j = false)) (hh : badAt l ch k = true) : dmgV l ch = k := by
  have := firstIdx_hit (n := l.length) (by omega) hb hh
  simp [dmgV, h, this]
theorem dmg_end {l : List ByteArray} {ch : List Int} {n : Nat} (hl : l.length = n) (h : dmgOk l ch = true) (hb : ∀ j, j < n → Hid (badAt l ch j = false)) : dmgV l ch = n := by
  subst hl
  have := firstIdx_none (p := badAt l ch) (n := l.length) (fun j hj => hb j (by omega))
  simp [dmgV, h, this]
theorem bad_more {l : List ByteArray} {ch : List Int} {k : Nat} (hb : ∀ j, j < k → Hid (badAt l ch j = false)) (h : badAt l ch k = false) : ∀ j, j < k + 1 → Hid (badAt l ch j = false) := fun j hj => by
  by_cases e : j = k
  · subst e; exact h
  · exact hb j (by omega)
theorem badAt_eq {l : List ByteArray} {ch : List Int} {k : Nat} {b cv : Int} {sk : ByteArray} (h1 : beforeAt ch k = b) (h2 : ch[k]?.getD 0 = cv) (h3 : l[k]?.getD ByteArray.empty = sk) : badAt l ch k = (cv != linkV b sk) := by rw [badAt, h1, h2, h3]
set_option maxHeartbeats 1000000 in
theorem implFirstDamage_any (w : World) (A B : Option Addr) (n m c d : Nat) (l : List ByteArray) (ch : List Int) (ha : RdT w A n l) (hb : RdI w B m ch) (hn : n ≤ 1099511627776) (hm : m ≤ 1099511627776) (hsz : ∀ s ∈ l, s.size ≤ 9223372036854775807) :
    Calls Tryd.prog 20 #[.slice A n c, .slice B m d] w fun e w' => e = .returned (.tuple #[.int .i64 (dmgV l ch), .bool (dmgOk l ch)]) ∧ ∃ x, w' = ext w x := by
  have Hl := Lib.hid ha.len
  have Hc := Lib.hid hb.len
  cases hk : dmgOk l ch
  · have e0 : dmgV l ch = 0 := by simp [dmgV, hk]
    rw [e0]
    unfold dmgOk at hk
    rw [Hl.out, Hc.out] at hk
    by_cases hnm : n = m
    · subst hnm
      go_enter Tryd.func20, Tryd.ntmps20
      go_wp2_with (first | (go_at_call 59; ((with_reducible refine (areRecords_any _ _ _ _ _ ha hn hsz).mono ?_); rintro e w' ⟨rfl, rfl⟩)) | (go_at_call 45; ((with_reducible refine (isChain_any _ _ _ _ _ hb hm).mono ?_); rintro e w' ⟨rfl, rfl⟩)))
      all_goals first | (go_ret2; exact ⟨rfl, ext_ex (by repeat (first | exact Below.refl _ _ | assumption | refine bExt ?_ _ | refine bAlloc ?_ _ | refine bDrewN ?_ _ | refine bDrew ?_ | refine bSet ?_ (by first | exact Nat.le_refl _ | omega | (simp; done) | (simp; omega)) _))⟩) | (exfalso; simp_all)
    · have hne : ((n : Int) != m) = true := by simp; omega
      have hne2 : ((m : Int) != n) = true := by simp; omega
      clear hk
      go_enter Tryd.func20, Tryd.ntmps20
      go_wp2_with (first | (go_at_call 59; ((with_reducible refine (areRecords_any _ _ _ _ _ ha hn hsz).mono ?_); rintro e w' ⟨rfl, rfl⟩)) | (go_at_call 45; ((with_reducible refine (isChain_any _ _ _ _ _ hb hm).mono ?_); rintro e w' ⟨rfl, rfl⟩)))
      all_goals (go_ret2; exact ⟨rfl, ext_ex (by repeat (first | exact Below.refl _ _ | assumption | refine bExt ?_ _ | refine bAlloc ?_ _ | refine bDrewN ?_ _ | refine bDrew ?_ | refine bSet ?_ (by first | exact Nat.le_refl _ | omega | (simp; done) | (simp; omega)) _))⟩)
  · have Hk := Lib.hid hk
    simp only [dmgOk, Bool.and_eq_true, decide_eq_true_eq] at hk
    obtain ⟨⟨h1, h2⟩, h3⟩ := hk
    rw [Hl.out, Hc.out] at h3
    subst h3
    obtain ⟨h4, h5⟩ := recsB_of h1
    have h6 := (chainB_of h2).2
    go_enter Tryd.func20, Tryd.ntmps20
    go_wp2_with (first | (go_at_call 59; ((with_reducible refine (areRecords_any _ _ _ _ _ ha hn hsz).mono ?_); rintro e w' ⟨rfl, rfl⟩)) | (go_at_call 45; ((with_reducible refine (isChain_any _ _ _ _ _ hb hm).mono ?_); rintro e w' ⟨rfl, rfl⟩)))
    go_loopw [6, 7, 8, 26] (fun u _ _ i wr => ∃ (k : Nat) (x : World), k ≤ n ∧ i = .int .i64 k ∧ u = .int .i64 (beforeAt ch k) ∧ wr = ext w x ∧ ∀ j, j < k → Hid (badAt l ch j = false)) (fun _ _ _ i _ => n - (intOf i).toNat)
    case atStart => exact ⟨0, _, by omega, rfl, rfl, ext_self w, fun j hj => by omega⟩
    case round =>
      obtain ⟨k, x, hk, rfl, rfl, rfl, hj⟩ := hrel
      by_cases hlt : k < n
      · obtain ⟨b1, o1, rfl, hb1, hc1⟩ := ha.open_ (by omega)
        obtain ⟨b2, o2, rfl, hb2, hc2⟩ := hb.open_ (by omega)
        have hck := hc1 k hlt
        have hcv := hc2 k hlt
        have hsk := h4 _ (getD_mem ByteArray.empty l k (by rw [Hl.out]; exact hlt))
        have hbe : 0 ≤ beforeAt ch k ∧ beforeAt ch k ≤ 1000002 := by
          unfold beforeAt
          split
          · omega
          · exact allB_get h6 _ (by rw [Hc.out]; omega)
        rw [List.getD_eq_getElem?_getD] at hcv
        have HB1 : Hid (beforeAt ch (k + 1) = ch[k]?.getD 0) := by simp [beforeAt, Hid]
        clear hc1 hc2
        generalize hbev : beforeAt ch k = be at *
        generalize hcvv : ch[k]?.getD 0 = cv at *
        generalize hskv : l[k]?.getD ByteArray.empty = sk at *
        have Hbad := Lib.hid (badAt_eq hbev hcvv hskv)
        clear hbev hcvv hskv
        have hs40 : sk.size ≤ 1099511627776 := by omega
        by_cases q : (linkV be sk != cv) = true
        · have Hv := Lib.hid (dmg_hit Hl.out Hk.out hlt hj (by rw [Hbad.out]; rw [bne_comm]; exact q))
          clear hj
          go_wp2
          go_quiet ((go_at_call 66; exact quiet_left (linkOf_any _ _ _ hs40 hbe.1 hbe.2)))
          go_wp2
          go_ret2
          exact ⟨ret_intB Hv.out.symm, ext_ex (by repeat (first | exact Below.refl _ _ | assumption | refine bExt ?_ _ | refine bAlloc ?_ _ | refine bDrewN ?_ _ | refine bDrew ?_ | refine bSet ?_ (by first | exact Nat.le_refl _ | omega | (simp; done) | (simp; omega)) _))⟩
        · have q2 : (linkV be sk != cv) = false := by simpa using q
          have Hmore := Lib.hid (bad_more hj (by rw [Hbad.out]; rw [bne_comm]; exact q2))
          clear hj q
          go_wp2
          go_quiet ((go_at_call 66; exact quiet_left (linkOf_any _ _ _ hs40 hbe.1 hbe.2)))
          go_wp2
          go_roundw
          case rel => exact ⟨k + 1, _, by omega, by go_num, by rw [HB1.out], (ext_ex (by repeat (first | exact Below.refl _ _ | assumption | refine bExt ?_ _ | refine bAlloc ?_ _ | refine bDrewN ?_ _ | refine bDrew ?_ | refine bSet ?_ (by first | exact Nat.le_refl _ | omega | (simp; done) | (simp; omega)) _))).choose_spec, Hmore.out⟩
          case measure => simp [intOf]; omega
      · have Hv := Lib.hid (dmg_end Hl.out Hk.out (fun j hjn => hj j (by omega)))
        clear hj
        go_wp2
        go_ret2
        exact ⟨ret_intB Hv.out.symm, ext_ex (by repeat (first | exact Below.refl _ _ | assumption | refine bExt ?_ _ | refine bAlloc ?_ _ | refine bDrewN ?_ _ | refine bDrew ?_ | refine bSet ?_ (by first | exact Nat.le_refl _ | omega | (simp; done) | (simp; omega)) _))⟩
end Go.Proofs.YtpjaiihkgeabiaaDoor
