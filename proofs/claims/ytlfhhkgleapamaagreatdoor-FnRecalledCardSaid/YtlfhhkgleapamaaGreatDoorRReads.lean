/- Texts as lists of bytes: cutting, joining, numbers; plain. Conditions: none. -/
import Derived.Lib.ItoaNum
import Derived.Lib.ItoaLen
import Derived.Lib.SplitLaws
import Derived.Lib.Join
import Derived.Test.YtlfhhkgleapamaaGreatDoorRStrs0
import Derived.Test.YtlfhhkgleapamaaGreatDoorRTots
import Derived.Test.YtlfhhkgleapamaaGreatDoorRBase0
import Derived.Test.YtlfhhkgleapamaaGreatDoorRDoors
import Derived.Test.YtlfhhkgleapamaaGreatDoorRLines
import Derived.Shelf.Vars
set_option linter.unusedVariables false
set_option linter.unusedSimpArgs false
set_option maxRecDepth 100000
set_option maxHeartbeats 16000000
namespace Go.Proofs.YtlfhhkgleapamaaGreatDoor
open Go.RowKit Go.ChangeShapes
variable {s : BA} {fa n q0 q1 q2 q3 sk : Int} {it : It} {gg kk : List (List Int)} {l : List Int} {b k m u : Nat} {c : UInt8} {W w w' : World}
abbrev Str := List UInt8
def spl (c : UInt8) : Str -> List Str
 | [] => [[]]
 | x :: r => if x = c then [] :: spl c r else (x :: (spl c r).headD []) :: (spl c r).tail
theorem spl_ne (c : UInt8) : ∀ l, spl c l ≠ []
 | [] => by simp [spl]
 | x :: r => by unfold spl; split <;> simp
theorem spl_ht (c : UInt8) (l : Str) : (spl c l).headD [] :: (spl c l).tail = spl c l := by
 cases h : spl c l with
 | nil => exact absurd h (spl_ne c l)
 | cons a r => rfl
theorem spl_pre (c : UInt8) : ∀ (a r : Str), c ∉ a -> spl c (a ++ r) = (a ++ (spl c r).headD []) :: (spl c r).tail
 | [], r, _ => (spl_ht c r).symm
 | x :: a, r, h => by
  have hx : x ≠ c := fun e => h (by simp [e])
  rw [List.cons_append, spl, if_neg hx, spl_pre c a r (fun hh => h (by simp [hh]))]
  rfl
theorem spl_no (c : UInt8) (a : Str) (h : c ∉ a) : spl c a = [a] := by
 have := spl_pre c a [] h
 simpa [spl] using this
theorem spl_cut (c : UInt8) (a r : Str) (h : c ∉ a) : spl c (a ++ c :: r) = a :: spl c r := by
 rw [spl_pre c a _ h];simp [spl]
theorem spl_len (c : UInt8) : ∀ l : Str, (spl c l).length = l.count c + 1
 | [] => rfl
 | x :: r => by
  have ih := spl_len c r;unfold spl
  split
  ·
   rename_i h; subst h; simp [ih]
  ·
   rename_i h
   rw [List.count_cons_of_ne (by simpa using h)];simp only [List.length_cons, List.length_tail, ih];omega
def ends (c : UInt8) (ls : List Str) : Str := ls.flatMap fun l => l ++ [c]
theorem spl_ends (c : UInt8) : ∀ ls : List Str, (∀ l ∈ ls, c ∉ l) -> spl c (ends c ls) = ls ++ [[]]
 | [], _ => rfl
 | l :: r, h => by
  have : ends c (l :: r) = l ++ c :: ends c r := by simp [ends]
  rw [this, spl_cut c l _ (h l (by simp)), spl_ends c r (fun x hx => h x (by simp [hx]))]
  rfl
theorem spl_join (c : UInt8) : ∀ (a : Str) (ls : List Str), (∀ l ∈ a :: ls, c ∉ l) -> spl c (Lib.join (a :: ls) [c]) = a :: ls
 | a, [], h => by rw [Lib.join_one]; exact spl_no c a (h a (by simp))
 | a, b :: r, h => by
  have : Lib.join (a :: b :: r) [c] = a ++ c :: Lib.join (b :: r) [c] := by
   rw [Lib.join_cons, Lib.join_cons]; simp [Lib.joinTail]
  rw [this, spl_cut c a _ (h a (by simp)), spl_join c b r (fun x hx => h x (by simp at hx ⊢; right; exact hx))]
theorem join_ends (c : UInt8) (a : Str) (ls : List Str) : Lib.join (a :: ls) [c] ++ [c] = ends c (a :: ls) := by
 rw [Lib.join_cons];have : ∀ ls : List Str, ∀ x : Str, x ++ Lib.joinTail [c] ls ++ [c] = ends c (x :: ls) := by
  intro ls
  induction ls with
  | nil => intro x; simp [ends, Lib.joinTail]
  | cons b r ih =>
   intro x;have := ih b;have e : ends c (x :: b :: r) = x ++ [c] ++ ends c (b :: r) := by simp [ends]
   rw [e, <- this];simp [Lib.joinTail]
 exact this ls a
theorem index_no (c : UInt8) : ∀ l : Str, c ∉ l -> Lib.index l [c] = -1
 | [], _ => by simp [Lib.index]
 | x :: r, h => by
  have hx : ¬ c = x := fun e => h (by simp [e])
  rw [Lib.index, index_no c r (fun hh => h (by simp [hh]))];simp [List.isPrefixOf, hx]
theorem index_at (c : UInt8) : ∀ (a r : Str), c ∉ a -> Lib.index (a ++ c :: r) [c] = a.length
 | [], r, _ => by simp [Lib.index, List.isPrefixOf]
 | x :: a, r, h => by
  have hx : ¬ c = x := fun e => h (by simp [e])
  have ih := index_at c a r (fun hh => h (by simp [hh]));rw [List.cons_append, Lib.index, ih];simp [List.isPrefixOf, hx]
theorem cut_at (c : UInt8) : ∀ l : Str, c ∉ l ∨ ∃ a r, l = a ++ c :: r /\ c ∉ a
 | [] => .inl (by simp)
 | x :: l => by
  by_cases hx : x = c
  ·
   subst hx; exact .inr ⟨[], l, rfl, by simp⟩
  ·
   rcases cut_at c l with h | ⟨a, r, rfl, h⟩
   ·
    refine .inl (fun hh => ?_)
    rcases List.mem_cons.1 hh with e | e
    ·
     exact hx e.symm
    ·
     exact h e
   ·
    refine .inr ⟨x :: a, r, rfl, fun hh => ?_⟩
    rcases List.mem_cons.1 hh with e | e
    ·
     exact hx e.symm
    ·
     exact h e
def spn (c : UInt8) : Nat -> Str -> List Str
 | 0, l => [l]
 | k + 1, l => match Lib.index l [c] with
  | .ofNat i => l.take i :: spn c k (l.drop (i + 1))
  | .negSucc _ => [l]
theorem splitK_spn (c : UInt8) : ∀ (k : Nat) (l : Str), Lib.splitK [c] 0 k l = spn c k l
 | 0, l => rfl
 | k + 1, l => by
  rcases cut_at c l with h | ⟨a, r, rfl, h⟩
  ·
   rw [Lib.splitK, spn, index_no c l h]; rfl
  ·
   rw [Lib.splitK, spn, index_at c a r h];have : ((a.length : Int) == -1) = false := by rw [beq_eq_false_iff_ne]; omega
   rw [this];simp [splitK_spn c k]
theorem spn_all (c : UInt8) : ∀ (k : Nat) (l : Str), l.count c <= k -> spn c k l = spl c l
 | 0, l, h => by
  have : c ∉ l := fun hh => by have := List.count_pos_iff.2 hh; omega
  rw [spl_no c l this]; rfl
 | k + 1, l, h => by
  rcases cut_at c l with hn | ⟨a, r, rfl, hn⟩
  ·
   rw [spn, index_no c l hn, spl_no c l hn]; rfl
  ·
   rw [spn, index_at c a r hn, spl_cut c a r hn];have hc : List.count c r <= k := by
    rw [List.count_append, List.count_cons_self] at h; omega
   have := spn_all c k r hc
   simpa using this
theorem split_spl (c : UInt8) (l : Str) : Lib.split l [c] = spl c l := by
 rw [Lib.split, splitK_spn, Lib.count_one, spn_all c _ l (Nat.le_refl _)]
theorem spn_cut (c : UInt8) (k : Nat) (a r : Str) (h : c ∉ a) : spn c (k + 1) (a ++ c :: r) = a :: spn c k r := by
 rw [spn, index_at c a r h]; simp
/-! Numbers -/
def digB (b : Nat) : Bool := decide (48 <= b) && decide (b <= 57)
def valD (l : Str) : Int := l.foldl (fun n b => 10 * n + ((b.toNat : Int) - 48)) 0
theorem valD_snoc (l : Str) (b : UInt8) : valD (l ++ [b]) = 10 * valD l + ((b.toNat : Int) - 48) := by simp [valD]
theorem decD_all : ∀ u : Nat, (Lib.decDigits u).all (fun b => digB b.toNat) = true := by
 intro u
 induction u using Nat.strongRecOn with
 | ind u ih =>
  rw [Lib.decDigits]
  split
  ·
   rename_i h
   simp [digB]; omega
  ·
   rename_i h
   rw [List.all_append, ih (u / 10) Om];simp [digB]; omega
theorem decD_val : ∀ u : Nat, valD (Lib.decDigits u) = u := by
 intro u
 induction u using Nat.strongRecOn with
 | ind u ih =>
  rw [Lib.decDigits]
  split
  ·
   rename_i h
   have e : (UInt8.ofNat (48 + u)).toNat = 48 + u := by simp; omega
   simp only [valD, List.foldl_cons, List.foldl_nil, e]; omega
  ·
   rename_i h
   rw [valD_snoc, ih (u / 10) Om];have e : (UInt8.ofNat (48 + u % 10)).toNat = 48 + u % 10 := by simp; omega
   rw [e]; omega
theorem decD_ne (u : Nat) : Lib.decDigits u ≠ [] := by
 rw [Lib.decDigits]; split <;> simp
theorem decD_len : ∀ (k u : Nat), u < 10 ^ (k + 1) -> (Lib.decDigits u).length <= k + 1
 | 0, u, h => by rw [Lib.decDigits_one Om]; simp
 | k + 1, u, h => by
  rw [Lib.decDigits]
  split
  ·
   simp
  ·
   have := decD_len k (u / 10) (by rw [Nat.pow_succ] at h; omega);simp only [List.length_append, List.length_cons, List.length_nil]; omega
theorem decD_head : ∀ u : Nat, 0 < u -> (Lib.decDigits u).head? ≠ some 48 := by
 intro u
 induction u using Nat.strongRecOn with
 | ind u ih =>
  intro hu;rw [Lib.decDigits]
  split
  ·
   rename_i h
   intro hh;simp only [List.head?_cons, Option.some.injEq] at hh;have : (UInt8.ofNat (48 + u)).toNat = 48 := by rw [hh]; rfl
   have e : (UInt8.ofNat (48 + u)).toNat = 48 + u := by simp; omega
   omega
  ·
   rename_i h
   rw [List.head?_append];have h1 := ih (u / 10) Om Om
   cases hd : (Lib.decDigits (u / 10)).head? with
   | none => rw [List.head?_eq_none_iff] at hd; exact absurd hd (decD_ne _)
   | some x => rw [hd] at h1; simpa using h1
def numOk (m : Nat) (l : Str) : Bool := decide (1 <= l.length) && (decide (l.length <= m) && (!(l.head? == some 48 && decide (1 < l.length)) && l.all (fun b => digB b.toNat)))
def readL (m : Nat) (l : Str) : Int := if numOk m l then valD l else -1
theorem valD_nonneg {l : Str} (h : l.all (fun b => digB b.toNat) = true) : 0 <= valD l := by
 have : ∀ (l : Str) (n : Int), 0 <= n -> l.all (fun b => digB b.toNat) = true -> 0 <= l.foldl (fun n b => 10 * n + ((b.toNat : Int) - 48)) n := by
  intro l
  induction l with
  | nil => intro n hn _; exact hn
  | cons b r ih =>
   intro n hn h;simp only [List.all_cons, Bool.and_eq_true, digB, decide_eq_true_eq] at h;exact ih _ (by have := h.1.1; show 0 <= 10 * n + ((b.toNat : Int) - 48); omega) (by simpa [digB] using h.2)
 exact this l 0 Om h
theorem read_num (h : u < 10 ^ (m + 1)) : readL (m + 1) (Lib.decDigits u) = u := by
 have hok : numOk (m + 1) (Lib.decDigits u) = true := by
  unfold numOk;have h1 := decD_len m u h;have h2 : 1 <= (Lib.decDigits u).length := by
   cases hd : Lib.decDigits u with
   | nil => exact absurd hd (decD_ne u)
   | cons a r => simp
  have h3 : ((Lib.decDigits u).head? == some 48 && decide (1 < (Lib.decDigits u).length)) = false := by
   by_cases hu : u = 0
   ·
    subst hu;have : Lib.decDigits 0 = [48] := by rw [Lib.decDigits_one Om]; rfl
    rw [this]; rfl
   ·
    have := decD_head u Om;rw [show ((Lib.decDigits u).head? == some 48) = false from by rw [beq_eq_false_iff_ne]; exact this]
    rfl
  rw [h3, decD_all u];simp [h1, h2]
 rw [readL, if_pos hok, decD_val]
theorem readL_nonneg (m : Nat) (l : Str) : decide (0 <= readL m l) = numOk m l := by
 unfold readL
 cases h : numOk m l
 ·
  simp
 ·
  have h2 : l.all (fun b => digB b.toNat) = true := by
   simp only [numOk, Bool.and_eq_true] at h; exact h.2.2.2
  have := valD_nonneg h2;simp [this]
theorem valD_lt {l : Str} (h : l.all (fun b => digB b.toNat) = true) : valD l < 10 ^ l.length := by
 have : ∀ (l : Str) (n : Int) (k : Nat), 0 <= n -> n < 10 ^ k -> l.all (fun b => digB b.toNat) = true -> l.foldl (fun n b => 10 * n + ((b.toNat : Int) - 48)) n < 10 ^ (k + l.length) := by
  intro l
  induction l with
  | nil => intro n k _ hn _; simpa using hn
  | cons b r ih =>
   intro n k h0 hn h;simp only [List.all_cons, Bool.and_eq_true, digB, decide_eq_true_eq] at h;have := ih (10 * n + ((b.toNat : Int) - 48)) (k + 1) (by have := h.1.1; omega) (by rw [Int.pow_succ]; have := h.1.2; omega) (by simpa [digB] using h.2);rw [List.foldl_cons, List.length_cons, show k + (r.length + 1) = k + 1 + r.length by omega];exact this
 have := this l 0 0 Om (by simp) h;rw [Nat.zero_add] at this;exact this
def bs (l : Str) : ByteArray := ⟨l.toArray⟩
theorem bs_data (l : Str) : (bs l).data.toList = l := by simp [bs]
theorem bs_of (s : BA) : bs s.data.toList = s := by cases s; simp [bs]
def signL (m : Int) : Str := if m = 1 then [60] else if m = 2 then [101] else if m = 3 then [42] else []
def sepW (w : Str) : Str × Int :=
 if w.getLast? = some 60 then (w.dropLast, 1) else if w.getLast? = some 101 then (w.dropLast, 2) else if w.getLast? = some 42 then (w.dropLast, 3) else (w, 0)
theorem sepW_sign {n : Str} (hn : ∀ b ∈ n, okC b.toNat = true) {m : Int} (h0 : 0 <= m) (h3 : m <= 3) : sepW (n ++ signL m) = (n, m) := by
 have hm : m = 0 ∨ m = 1 ∨ m = 2 ∨ m = 3 := Om
 rcases hm with rfl | rfl | rfl | rfl
 ·
  have no : ∀ x : UInt8, okC x.toNat = false -> n.getLast? ≠ some x := by
   intro x hx hl;have := List.mem_of_getLast? hl;rw [hn x this] at hx; cases hx
  simp [signL, sepW, no 60 (by decide), no 101 (by decide), no 42 (by decide)]
 ·
  simp [signL, sepW]
 ·
  simp [signL, sepW]
 ·
  simp [signL, sepW]
def wordsOf (it : It) : List Str := List.zipWith (fun s m => s.data.toList ++ signL m) it.1 it.2.1
def itemL (it : It) : Str := Lib.join (wordsOf it) [43] ++ (if it.2.2 then [32, 120] else [])
def cutX (s : Str) : Str × Bool := if [32, 120].isSuffixOf s then (s.take (s.length - 2), true) else (s, false)
def itOf (s : Str) : It := (((spl 43 (cutX s).1).map fun w => bs (sepW w).1), ((spl 43 (cutX s).1).map fun w => (sepW w).2), (cutX s).2)
def ItV (it : It) : Prop := it.1 ≠ [] /\ it.2.1.length = it.1.length /\ (∀ s ∈ it.1, ∀ b ∈ s.data.toList, okC b.toNat = true) /\ ∀ m ∈ it.2.1, 0 <= m /\ m <= 3
theorem signL_mem {m : Int} {b : UInt8} (h : b ∈ signL m) : b = 60 ∨ b = 101 ∨ b = 42 := by
 unfold signL at h
 split at h
 ·
  simp at h; exact .inl h
 ·
  split at h
  ·
   simp at h; exact .inr (.inl h)
  ·
   split at h
   ·
    simp at h; exact .inr (.inr h)
   ·
    simp at h
theorem zipWith_mem {α β γ : Type} {f : α -> β -> γ} : ∀ {l : List α} {r : List β} {x : γ}, x ∈ List.zipWith f l r -> ∃ a ∈ l, ∃ b ∈ r, x = f a b
 | [], _, _, h => by simp at h
 | _ :: _, [], _, h => by simp at h
 | a :: l, b :: r, x, h => by
  rw [List.zipWith_cons_cons] at h
  rcases List.mem_cons.1 h with e | e
  ·
   exact ⟨a, by simp, b, by simp, e⟩
  ·
   obtain ⟨a', h1, b', h2, e'⟩ := zipWith_mem e;exact ⟨a', by simp [h1], b', by simp [h2], e'⟩
theorem word_mem (h : ItV it) {w : Str} (hw : w ∈ wordsOf it) : ∀ b ∈ w, okC b.toNat = true ∨ b = 60 ∨ b = 101 ∨ b = 42 := by
 obtain ⟨s, hs, m, hm, rfl⟩ := zipWith_mem hw;intro b hb
 rcases List.mem_append.1 hb with hb | hb
 ·
  exact .inl (h.2.2.1 s hs b hb)
 ·
  exact .inr (signL_mem hb)
theorem word_no (h : ItV it) {w : Str} (hw : w ∈ wordsOf it) (hc : okC c.toNat = false) (h1 : c ≠ 60) (h2 : c ≠ 101) (h3 : c ≠ 42) : c ∉ w := by
 intro hm
 rcases word_mem h hw c hm with e | e | e | e
 ·
  rw [hc] at e; cases e
 ·
  exact h1 e
 ·
  exact h2 e
 ·
  exact h3 e
theorem join_mem {sep : Str} {b : UInt8} : ∀ {ls : List Str}, b ∈ Lib.join ls sep -> b ∈ sep ∨ ∃ l ∈ ls, b ∈ l
 | [], h => by simp [Lib.join_nil] at h
 | a :: r, h => by
  rw [Lib.join_cons] at h
  rcases List.mem_append.1 h with h | h
  ·
   exact .inr ⟨a, by simp, h⟩
  ·
   simp only [Lib.joinTail, List.mem_flatten, List.mem_map] at h;obtain ⟨l, ⟨x, hx, rfl⟩, hb⟩ := h
   rcases List.mem_append.1 hb with hb | hb
   ·
    exact .inl hb
   ·
    exact .inr ⟨x, by simp [hx], hb⟩
theorem joined_no (h : ItV it) (hc : okC c.toNat = false) (h1 : c ≠ 60) (h2 : c ≠ 101) (h3 : c ≠ 42) (h4 : c ≠ 43) : c ∉ Lib.join (wordsOf it) [43] := by
 intro hm
 rcases join_mem hm with e | ⟨l, hl, e⟩
 ·
  simp at e; exact h4 e
 ·
  exact word_no h hl hc h1 h2 h3 e
theorem itemL_no (h : ItV it) (hc : okC c.toNat = false) (h1 : c ≠ 60) (h2 : c ≠ 101) (h3 : c ≠ 42) (h4 : c ≠ 43) (h5 : c ≠ 32) (h6 : c ≠ 120) : c ∉ itemL it := by
 intro hm;unfold itemL at hm
 rcases List.mem_append.1 hm with e | e
 ·
  exact joined_no h hc h1 h2 h3 h4 e
 ·
  split at e
  ·
   simp at e; rcases e with e | e
   ·
    exact h5 e
   ·
    exact h6 e
  ·
   simp at e
theorem cutX_item (h : ItV it) : cutX (itemL it) = (Lib.join (wordsOf it) [43], it.2.2) := by
 unfold itemL cutX
 cases hl : it.2.2
 ·
  have hn := joined_no h (c := 32) (by decide) (by decide) (by decide) (by decide) (by decide);rw [if_neg]
  ·
   simp
  ·
   intro hs;rw [List.isSuffixOf_iff_suffix] at hs;exact hn (by have := hs.mem (a := 32) (by simp); simpa using this)
 ·
  rw [if_pos]
  ·
   simp
  ·
   rw [List.isSuffixOf_iff_suffix];exact List.suffix_append _ _
theorem zip_back {f : ByteArray -> Int -> Str} (hf : ∀ s m, (∀ b ∈ s.data.toList, okC b.toNat = true) -> 0 <= m -> m <= 3 -> sepW (f s m) = (s.data.toList, m)) : ∀ (l : List BA) (r : List Int), r.length = l.length -> (∀ s ∈ l, ∀ b ∈ s.data.toList, okC b.toNat = true) -> (∀ m ∈ r, 0 <= m /\ m <= 3) ->
  (List.zipWith f l r).map (fun w => bs (sepW w).1) = l /\ (List.zipWith f l r).map (fun w => (sepW w).2) = r
 | [], [], _, _, _ => ⟨rfl, rfl⟩
 | [], _ :: _, h, _, _ => by simp at h
 | _ :: _, [], h, _, _ => by simp at h
 | a :: l, b :: r, h, h1, h2 => by
  have ih := zip_back hf l r (by simpa using h) (fun s hs => h1 s (by simp [hs])) (fun m hm => h2 m (by simp [hm]));have e := hf a b (h1 a (by simp)) (h2 b (by simp)).1 (h2 b (by simp)).2;simp only [List.zipWith_cons_cons, List.map_cons, e, bs_of, ih.1, ih.2, and_self]
theorem itOf_item (h : ItV it) : itOf (itemL it) = it := by
 unfold itOf;rw [cutX_item h];have hne : wordsOf it ≠ [] := by
  unfold wordsOf;obtain ⟨names, marks, late⟩ := it;obtain ⟨h1, h2, _⟩ := h
  cases names with
  | nil => exact absurd rfl h1
  | cons a r => cases marks with
   | nil => simp at h2
   | cons b s => simp
 have hs : spl 43 (Lib.join (wordsOf it) [43]) = wordsOf it := by
  cases hw : wordsOf it with
  | nil => exact absurd hw hne
  | cons a r =>
   refine spl_join 43 a r (fun l hl => ?_);rw [<- hw] at hl;exact word_no h hl (by decide) (by decide) (by decide) (by decide)
 simp only [hs];obtain ⟨z1, z2⟩ := zip_back (f := fun s m => s.data.toList ++ signL m) (fun s m h1 h2 h3 => sepW_sign h1 h2 h3) it.1 it.2.1 h.2.1 h.2.2.1 h.2.2.2;unfold wordsOf;rw [z1, z2]
/-! Marks as text -/
def rowL (tag : UInt8) (l : List Int) : Str := tag :: l.flatMap fun n => 32 :: Lib.itoa n
def marksL (gg kk : List (List Int)) : Str := ends 10 (gg.map (rowL 103) ++ kk.map (rowL 99))
def mkNum (l : Str) : Int := if l.head? = some 45 /\ 1 < l.length then (if 0 <= readL 6 l.tail then -(readL 6 l.tail) else 9999) else if 0 <= readL 6 l then readL 6 l else 9999
def intR (l : Str) : Option Int :=
 if l.head? = some 45 then (if 0 < readL 12 l.tail then some (-(readL 12 l.tail)) else none) else if 0 <= readL 12 l then some (readL 12 l) else none
theorem dig_no (hc : digB c.toNat = false) : c ∉ Lib.decDigits u := by
 intro h;have := List.all_eq_true.1 (decD_all u) c h;rw [hc] at this; cases this
theorem decD_head45 (u : Nat) : (Lib.decDigits u).head? ≠ some 45 := by
 intro h;exact dig_no (by decide) (List.mem_of_head? h)
theorem decD_pos (u : Nat) : 0 < (Lib.decDigits u).length := by
 cases h : Lib.decDigits u with
 | nil => exact absurd h (decD_ne u)
 | cons a r => simp
theorem mkNum_itoa (h1 : -1000000 < n) (h2 : n < 1000000) : mkNum (Lib.itoa n) = n := by
 unfold Lib.itoa
 split
 ·
  rename_i h
  have e := read_num (m := 5) (u := n.natAbs) Om;have hp := decD_pos n.natAbs;simp only [mkNum, List.head?_cons, List.length_cons, List.tail_cons, e, true_and];rw [if_pos Om, if_pos Om];omega
 ·
  have e := read_num (m := 5) (u := n.toNat) Om;simp only [mkNum, decD_head45, false_and, if_false, e];rw [if_pos Om];omega
theorem intR_itoa (h1 : -1000000000000 < n) (h2 : n < 1000000000000) : intR (Lib.itoa n) = some n := by
 unfold Lib.itoa
 split
 ·
  rename_i h
  have e := read_num (m := 11) (u := n.natAbs) Om;simp only [intR, List.head?_cons, List.tail_cons, e, if_true];rw [if_pos Om]
  congr 1; omega
 ·
  have e := read_num (m := 11) (u := n.toNat) Om;simp only [intR, decD_head45, if_false, e];rw [if_pos Om]
  congr 1; omega
theorem itoa_no (hc : digB c.toNat = false) (h : c ≠ 45) : c ∉ Lib.itoa n := by
 unfold Lib.itoa
 split
 ·
  intro hm
  rcases List.mem_cons.1 hm with e | e
  ·
   exact h e
  ·
   exact dig_no hc e
 ·
  exact dig_no hc
theorem spl_row (tag : UInt8) (ht : tag ≠ 32) : ∀ l : List Int, spl 32 (rowL tag l) = [tag] :: l.map Lib.itoa := by
 have : ∀ (l : List Int) (a : Str), 32 ∉ a -> spl 32 (a ++ l.flatMap fun n => 32 :: Lib.itoa n) = a :: l.map Lib.itoa := by
  intro l
  induction l with
  | nil => intro a ha; simpa using spl_no 32 a ha
  | cons n r ih =>
   intro a ha;rw [List.flatMap_cons, List.cons_append, spl_cut 32 a _ ha, ih _ (itoa_no (by decide) (by decide))]
   rfl
 intro l;exact this l [tag] (by simp; exact fun e => ht e.symm)
theorem row_no {tag : UInt8} (ht : c ≠ tag) (h32 : c ≠ 32) (h45 : c ≠ 45) (hc : digB c.toNat = false) (l : List Int) : c ∉ rowL tag l := by
 intro h
 rcases List.mem_cons.1 h with e | e
 ·
  exact ht e
 ·
  simp only [List.mem_flatMap] at e;obtain ⟨n, _, e⟩ := e
  rcases List.mem_cons.1 e with e | e
  ·
   exact h32 e
  ·
   exact itoa_no hc h45 e
abbrev MM := List (List Int) × List (List Int)
def mkStep (s : MM) (line : Str) : MM :=
 if (spl 32 line).headD [] = [103] then (s.1 ++ [(spl 32 line).tail.map mkNum], s.2)
 else if (spl 32 line).headD [] = [99] then (s.1, s.2 ++ [(spl 32 line).tail.map mkNum]) else s
def mkFold (ls : List Str) : MM := ls.foldl mkStep ([], [])
theorem mkStep_g (s : MM) (h : ∀ n ∈ l, -1000000 < n /\ n < 1000000) : mkStep s (rowL 103 l) = (s.1 ++ [l], s.2) := by
 unfold mkStep;rw [spl_row 103 (by decide)];simp only [List.headD_cons, if_true, List.tail_cons, List.map_map]
 congr 3
 rw [<- List.map_id l];simp only [List.map_map];exact List.map_congr_left fun n hn => mkNum_itoa (h n hn).1 (h n hn).2
theorem mkStep_c (s : MM) (h : ∀ n ∈ l, -1000000 < n /\ n < 1000000) : mkStep s (rowL 99 l) = (s.1, s.2 ++ [l]) := by
 unfold mkStep;rw [spl_row 99 (by decide)];simp only [List.headD_cons, List.tail_cons, List.map_map];rw [if_neg (by decide), if_pos trivial]
 congr 3
 rw [<- List.map_id l];simp only [List.map_map];exact List.map_congr_left fun n hn => mkNum_itoa (h n hn).1 (h n hn).2
def MkV (gg kk : List (List Int)) : Prop := kk.length = 3 /\ gg.length <= 14 /\ (∀ l ∈ gg, ∀ n ∈ l, -5 <= n /\ n <= 5) /\ ∀ l ∈ kk, ∀ n ∈ l, 0 <= n /\ n <= 1000
theorem mkFold_rows (h : MkV gg kk) (r : List Str) : (gg.map (rowL 103) ++ kk.map (rowL 99) ++ r).foldl mkStep ([], []) = r.foldl mkStep (gg, kk) := by
 have h1 : ∀ (l : List (List Int)) (s : MM), (∀ x ∈ l, ∀ n ∈ x, -5 <= n /\ n <= 5) -> (l.map (rowL 103)).foldl mkStep s = (s.1 ++ l, s.2) := by
  intro l
  induction l with
  | nil => intro s _; simp
  | cons a l ih =>
   intro s hs;rw [List.map_cons, List.foldl_cons, mkStep_g s (fun n hn => by have := hs a (by simp) n hn; omega), ih _ (fun x hx => hs x (by simp [hx]))]
   simp
 have h2 : ∀ (l : List (List Int)) (s : MM), (∀ x ∈ l, ∀ n ∈ x, 0 <= n /\ n <= 1000) -> (l.map (rowL 99)).foldl mkStep s = (s.1, s.2 ++ l) := by
  intro l
  induction l with
  | nil => intro s _; simp
  | cons a l ih =>
   intro s hs;rw [List.map_cons, List.foldl_cons, mkStep_c s (fun n hn => by have := hs a (by simp) n hn; omega), ih _ (fun x hx => hs x (by simp [hx]))]
   simp
 rw [List.foldl_append, List.foldl_append, h1 gg _ h.2.2.1, h2 kk _ h.2.2.2]
 simp
theorem rows_no10 : ∀ l ∈ gg.map (rowL 103) ++ kk.map (rowL 99), (10 : UInt8) ∉ l := by
 intro l hl
 rcases List.mem_append.1 hl with h | h
 ·
  obtain ⟨x, _, rfl⟩ := List.mem_map.1 h;exact row_no (by decide) (by decide) (by decide) (by decide) x
 ·
  obtain ⟨x, _, rfl⟩ := List.mem_map.1 h;exact row_no (by decide) (by decide) (by decide) (by decide) x
theorem specMarks_back (h : MkV gg kk) : mkFold (spl 10 (marksL gg kk)) = (gg, kk) /\ (spl 10 (marksL gg kk)).length <= 18 := by
 unfold marksL mkFold;rw [spl_ends 10 _ rows_no10];refine ⟨?_, ?_⟩
 ·
  rw [mkFold_rows h [[]]]
  rfl
 ·
  simp [h.1]; have := h.2.1; omega
def intsR : List Str -> Option (List Int)
 | [] => some []
 | w :: r => match intR w with
  | none => none
  | some n => match intsR r with
   | none => none
   | some l => some (n :: l)
theorem intsR_itoa : ∀ {l : List Int}, (∀ n ∈ l, -1000000000000 < n /\ n < 1000000000000) -> intsR (l.map Lib.itoa) = some l
 | [], _ => rfl
 | a :: r, h => by
  rw [List.map_cons, intsR, intR_itoa (h a (by simp)).1 (h a (by simp)).2, intsR_itoa (fun n hn => h n (by simp [hn]))]
def mkRead (n : Nat) : Nat -> List Str -> List (List Int) -> List (List Int) -> Option MM
 | _, [], gg, kk => some (gg, kk)
 | i, line :: r, gg, kk => match intsR (spl 32 line).tail with
  | none => none
  | some row => if (spl 32 line).headD [] = [103] /\ i + 3 < n then mkRead n (i + 1) r (gg ++ [row]) kk
   else if (spl 32 line).headD [] = [99] /\ n <= i + 3 then mkRead n (i + 1) r gg (kk ++ [row]) else none
theorem mkRead_rows (h : MkV gg kk) : mkRead (gg.length + 3) 0 (gg.map (rowL 103) ++ kk.map (rowL 99)) [] [] = some (gg, kk) := by
 have h2 : ∀ (l : List (List Int)) (i : Nat) (a b : List (List Int)), (∀ x ∈ l, ∀ n ∈ x, 0 <= n /\ n <= 1000) -> gg.length <= i -> mkRead (gg.length + 3) i (l.map (rowL 99)) a b = some (a, b ++ l) := by
  intro l
  induction l with
  | nil => intro i a b _ _; simp [mkRead]
  | cons x l ih =>
   intro i a b hs hi;rw [List.map_cons, mkRead, spl_row 99 (by decide)];simp only [List.tail_cons, List.headD_cons];rw [intsR_itoa (fun n hn => by have := hs x (by simp) n hn; omega)];simp only;rw [if_neg (fun e => by have := e.1; simp at this), if_pos ⟨trivial, Om⟩, ih _ _ _ (fun y hy => hs y (by simp [hy])) Om]
   simp
 have h1 : ∀ (l : List (List Int)) (i : Nat) (a : List (List Int)), (∀ x ∈ l, ∀ n ∈ x, -5 <= n /\ n <= 5) -> i + l.length = gg.length -> mkRead (gg.length + 3) i (l.map (rowL 103) ++ kk.map (rowL 99)) a [] = some (a ++ l, kk) := by
  intro l
  induction l with
  | nil => intro i a _ hi; simp only [List.length_nil] at hi; rw [List.map_nil, List.nil_append, h2 kk i a [] h.2.2.2 Om]; simp
  | cons x l ih =>
   intro i a hs hi;simp only [List.length_cons] at hi;rw [List.map_cons, List.cons_append, mkRead, spl_row 103 (by decide)];simp only [List.tail_cons, List.headD_cons];rw [intsR_itoa (fun n hn => by have := hs x (by simp) n hn; omega)];simp only;rw [if_pos ⟨trivial, Om⟩, ih _ _ (fun y hy => hs y (by simp [hy])) Om]
   simp
 have := h1 gg 0 [] h.2.2.1 Om
 simpa using this
theorem ends_append (c : UInt8) (a b : List Str) : ends c (a ++ b) = ends c a ++ ends c b := by simp [ends]
theorem numS_list (h : 0 <= n) : (numS n).data.toList = Lib.itoa n := by
 unfold numS Lib.itoa; rw [if_neg Om]
theorem intS_list (n : Int) : (intS n).data.toList = Lib.itoa n := by
 unfold intS
 split
 ·
  rename_i h
  rw [ByteArray.data_append, Array.toList_append];unfold numS Lib.itoa;rw [if_pos h, show (-n).toNat = n.natAbs by omega]
  rfl
 ·
  exact numS_list Om
theorem ba_app (a b : BA) : (a ++ b).data.toList = a.data.toList ++ b.data.toList := by rw [ByteArray.data_append, Array.toList_append]
def okP (b : UInt8) : Bool := digB b.toNat || (b == 45 || b == 46)
theorem dig_okP : ∀ b ∈ Lib.decDigits u, okP b = true := fun b hb => by
 have := List.all_eq_true.1 (decD_all u) b hb;simp [okP, this]
theorem numS_okP (n : Int) : ∀ b ∈ (numS n).data.toList, okP b = true := fun b hb => dig_okP b hb
theorem poP_okP (n : Int) : ∀ b ∈ (poP n).data.toList, okP b = true := by
 intro b hb;unfold poP at hb;simp only [ba_app, List.mem_append] at hb
 rcases hb with ((h | h) | h) | h
 ·
  exact numS_okP _ b h
 ·
  simp at h; subst h; rfl
 ·
  exact numS_okP _ b h
 ·
  exact numS_okP _ b h
theorem poS_okP (n : Int) : ∀ b ∈ (poS n).data.toList, okP b = true := by
 intro b hb;unfold poS at hb
 split at hb
 ·
  rw [ba_app, List.mem_append] at hb
  rcases hb with h | h
  ·
   simp at h; subst h; rfl
  ·
   exact poP_okP _ b h
 ·
  exact poP_okP _ b hb
theorem poS_no (h : okP c = false) : c ∉ (poS n).data.toList := fun hm => by
 have := poS_okP n c hm;rw [h] at this; cases this
/-! Lines -/
theorem linesA_list (s : BA) (f : Nat -> ByteArray) : ∀ k, (linesA s f k).data.toList = s.data.toList ++ ends 10 ((List.range k).map fun j => (f j).data.toList)
 | 0 => by simp [linesA, ends]
 | k + 1 => by
  rw [linesA, ba_app, ba_app, linesA_list s f k, List.range_succ, List.map_append, ends_append, List.append_assoc];simp [ends]
theorem rowA_list (s : BA) (l : List Int) : ∀ k, k <= l.length -> (rowA s l k).data.toList = s.data.toList ++ ((l.take k).flatMap fun n => 32 :: Lib.itoa n)
 | 0, _ => by simp [rowA]
 | k + 1, h => by
  rw [rowA, ba_app, ba_app, rowA_list s l k Om, take_succ_getD 0 l k Om, List.flatMap_append, List.append_assoc, numF, intS_list]
  simp
theorem rowsA_list (tag : UInt8) (s : BA) (L : List (List Int)) : ∀ k, k <= L.length -> (rowsA ⟨#[tag]⟩ s L k).data.toList = s.data.toList ++ ends 10 ((L.take k).map (rowL tag))
 | 0, _ => by simp [rowsA, ends]
 | k + 1, h => by
  rw [rowsA, ba_app, rowA_list _ _ _ (Nat.le_refl _), ba_app, rowsA_list tag s L k Om, take_succ_getD [] L k Om, List.map_append, ends_append, List.take_of_length_le (Nat.le_refl _)];simp [ends, rowL]
theorem marksS_list (gg kk : List (List Int)) : (marksS gg kk).data.toList = marksL gg kk := by
 unfold marksS marksL;rw [rowsA_list 99 _ kk _ (Nat.le_refl _), rowsA_list 103 _ gg _ (Nat.le_refl _), List.take_of_length_le (Nat.le_refl _), List.take_of_length_le (Nat.le_refl _), ends_append]
 rfl
def wPro : Str := [112, 114, 111, 116, 111, 99, 111, 108]
def wSli : Str := [115, 108, 105, 112, 115]
def hdrL (sk fa : Int) : Str := wPro ++ 32 :: (Lib.itoa sk ++ 32 :: Lib.itoa fa)
def slipL (a b c : Int) : Str := Lib.itoa a ++ 32 :: (Lib.itoa b ++ 32 :: Lib.itoa c)
def lineL (els : List El) (q0 q1 q2 : Int) (its : List It) (gg : List (List Int)) (k : Nat) : Str := (lineS els q0 q1 q2 its gg k).data.toList
def linesL (els : List El) (q0 q1 q2 : Int) (its : List It) (gg : List (List Int)) : List Str := (List.range its.length).map (lineL els q0 q1 q2 its gg)
def rowsL (gg kk : List (List Int)) : List Str := gg.map (rowL 103) ++ kk.map (rowL 99)
def proL (els : List El) (q0 q1 q2 q3 : Int) (its : List It) (gg kk : List (List Int)) (s1 s2 s3 sk fa : Int) : List Str :=
 hdrL sk fa :: (linesL els q0 q1 q2 its gg ++ (rowsL gg kk ++ [wSli ++ 32 :: slipL s1 s2 s3, (totS els q0 q1 q2 q3 its gg kk s1 s2 s3 fa).data.toList]))
theorem slipS_list (a b c : Int) : (slipS a b c).data.toList = slipL a b c := by
 unfold slipS slipL;rw [numsS_three];simp only [ba_app, intS_list, List.append_assoc]
 rfl
theorem hdrS_list (hsk : 1 <= sk /\ sk <= 999) (hfa : 10 <= fa /\ fa <= 400) : (hdrS sk fa).data.toList = hdrL sk fa ++ [10] := by
 unfold hdrS hdrL wPro;simp only [ba_app, numS_list (show 0 <= sk by omega), numS_list (show 0 <= fa by omega)]
 simp
theorem textV_list {els : List El} {its : List It} {s1 s2 s3 : Int} (hsk : 1 <= sk /\ sk <= 999) (hfa : 10 <= fa /\ fa <= 400) :
  (textV els q0 q1 q2 q3 its gg kk s1 s2 s3 sk fa).data.toList = ends 10 (proL els q0 q1 q2 q3 its gg kk s1 s2 s3 sk fa) := by
 unfold textV proL;have e : ∀ (a : Str) (r : List Str), ends 10 (a :: r) = a ++ [10] ++ ends 10 r := fun a r => by simp [ends]
 rw [e, ends_append, ends_append];simp only [ba_app, linesA_list, hdrS_list hsk hfa, marksS_list, slipS_list];unfold linesL lineL marksL rowsL wSli;simp [ends]
/-! Items -/
theorem signS_list (m : Int) : (signS m).data.toList = signL m := by
 unfold signS signL
 split
 ·
  rfl
 ·
  split
  ·
   rfl
  ·
   split <;> rfl
theorem words_list (h : it.2.1.length = it.1.length) : (wordsF (wordS it) it.1.length).map (·.data.toList) = wordsOf it := by
 apply List.ext_getElem
 ·
  simp [wordsF, wordsOf, h]
 ·
  intro j h1 h2;have hj : j < it.1.length := by simpa [wordsF] using h1
  have hj2 : j < it.2.1.length := Om;simp [wordsF, wordsOf, wordS, nmAt, mkAt, signS_list, hj, hj2]
theorem itemS_list (h : it.2.1.length = it.1.length) (h1 : 1 <= it.1.length) : (itemS it).data.toList = itemL it := by
 have hj : (joinTo ⟨#[43]⟩ (wordS it) it.1.length).data.toList = Lib.join (wordsOf it) [43] := by
  obtain ⟨k, hk⟩ : ∃ k, it.1.length = k + 1 := ⟨it.1.length - 1, Om⟩;rw [hk, joinTo_list, <- hk, words_list h]
 unfold itemS itemL
 cases it.2.2
 ·
  simp [hj]
 ·
  simp [hj]
theorem nameB_all (h : nameB s = true) : ∀ b ∈ s.data.toList, okC b.toNat = true := by
 intro b hb;simp only [nameB, Bool.and_eq_true] at h;obtain ⟨i, hi, e⟩ := List.getElem_of_mem hb;have hs : i < s.size := by rw [Array.length_toList] at hi; exact hi
 have h1 : okC (byteN s i) = true := List.all_eq_true.1 h.1 i (List.mem_range.2 hs);have e2 : s[i] = b := by rw [<- e]; rfl
 unfold byteN at h1;rw [dif_pos hs, e2] at h1;exact h1
theorem itV_of (h : itemB it = true) : ItV it := by
 have h2 := item_of h;simp only [itemB, Bool.and_eq_true, decide_eq_true_eq] at h;refine ⟨?_, h2.2.1, fun s hs => ?_, fun m hm => ?_⟩
 ·
  intro e; rw [e] at h2; simp at h2
 ·
  exact nameB_all (List.all_eq_true.1 h.1 s hs)
 ·
  exact allB_of h.2.2.2 m hm
def oAll {α β : Type} (f : α -> Option β) : List α -> Option (List β)
 | [] => some []
 | a :: r => match f a with
  | none => none
  | some b => match oAll f r with
   | none => none
   | some l => some (b :: l)
theorem oAll_snoc {α β : Type} {f : α -> Option β} {a : α} {b : β} (hb : f a = some b) : ∀ {l : List α} {o : List β}, oAll f l = some o -> oAll f (l ++ [a]) = some (o ++ [b])
 | [], o, h => by simp only [oAll, Option.some.injEq] at h; subst h; simp [oAll, hb]
 | x :: r, o, h => by
  rw [oAll] at h;rw [List.cons_append, oAll]
  cases hx : f x with
  | none => rw [hx] at h; cases h
  | some y =>
   rw [hx] at h
   cases hr : oAll f r with
   | none => simp only [hr] at h; cases h
   | some t =>
    simp only [hr, Option.some.injEq] at h;subst h;simp only [oAll_snoc hb hr, List.cons_append]
theorem oAll_none {α β : Type} {f : α -> Option β} {a : α} (hb : f a = none) : ∀ {l : List α}, a ∈ l -> oAll f l = none
 | [], h => by simp at h
 | x :: r, h => by
  rw [oAll]
  rcases List.mem_cons.1 h with rfl | h
  ·
   rw [hb]
  ·
   cases f x with
   | none => rfl
   | some y => simp only [oAll_none hb h]
theorem oAll_map {α β : Type} {f : α -> Option β} {g : β -> α} : ∀ {l : List β}, (∀ x ∈ l, f (g x) = some x) -> oAll f (l.map g) = some l
 | [], _ => rfl
 | a :: r, h => by
  have ih := oAll_map (f := f) (g := g) (l := r) (fun x hx => h x (by simp [hx]));rw [List.map_cons, oAll, h a (by simp)];simp only [ih]
theorem oAll_len {α β : Type} {f : α -> Option β} : ∀ {l : List α} {o : List β}, oAll f l = some o -> o.length = l.length
 | [], o, h => by simp only [oAll, Option.some.injEq] at h; subst h; rfl
 | x :: r, o, h => by
  rw [oAll] at h
  cases hx : f x with
  | none => rw [hx] at h; cases h
  | some y =>
   rw [hx] at h
   cases hr : oAll f r with
   | none => simp only [hr] at h; cases h
   | some t =>
    simp only [hr, Option.some.injEq] at h;subst h;simp [oAll_len hr]
theorem intsR_oAll : ∀ l, intsR l = oAll intR l
 | [] => rfl
 | a :: r => by
  rw [intsR, oAll, intsR_oAll r]
  cases intR a with
  | none => rfl
  | some n => cases oAll intR r <;> rfl
/-! What both read -/
abbrev SL := Int × Int × Int
def behL : Nat -> Str -> Str
 | _, [] => []
 | n, x :: r => if x = 32 then (if n <= 1 then r else behL (n - 1) r) else behL n r
theorem behL_cut {n : Nat} : ∀ {a : Str} {r : Str}, 32 ∉ a -> behL (n + 1) (a ++ 32 :: r) = if n = 0 then r else behL n r
 | [], r, _ => by
  rw [List.nil_append, behL, if_pos rfl];by_cases h : n = 0
  ·
   rw [if_pos Om, if_pos h]
  ·
   rw [if_neg Om, if_neg h]; rfl
 | x :: a, r, h => by
  have hx : ¬ x = 32 := fun e => h (by simp [e])
  rw [List.cons_append, behL, if_neg hx];exact behL_cut (fun hh => h (by simp [hh]))
def dcP (s : Str) : SL := match spl 32 s with
 | [a, b, c] => if slipB (readL 6 a) (readL 6 b) (readL 6 c) then (readL 6 a, readL 6 b, readL 6 c) else (0, 0, 0)
 | _ => (0, 0, 0)
def itP (s : Str) : It := if itemB (itOf s) && ((itemS (itOf s)).data.toList == s) then itOf s else zIt
structure St where
 sk : Int
 fa : Int
 sl : SL
 ms : Str
 its : List It
def wHd (line : Str) : Str := (spl 32 line).headD []
def spStep (st : St) (line : Str) : St :=
 if wHd line = wPro /\ (spl 32 line).length = 3 then { st with sk := readL 6 ((spl 32 line)[1]?.getD []), fa := readL 6 ((spl 32 line)[2]?.getD []) }
 else if wHd line = wSli then { st with sl := dcP (behL 1 line) }
 else if wHd line = [103] ∨ wHd line = [99] then { st with ms := st.ms ++ (line ++ [10]) }
 else if 0 < readL 6 (wHd line) then { st with its := st.its ++ [itP (behL 4 line)] }
 else st
def spRead (s : Str) : St := (spl 10 s).foldl spStep ⟨0, 0, (0, 0, 0), [], []⟩
def mkR (s : Str) : Option MM := if (spl 10 s).length <= 18 then (if marksB (mkFold (spl 10 s)).1 (mkFold (spl 10 s)).2 && ((marksS (mkFold (spl 10 s)).1 (mkFold (spl 10 s)).2).data.toList == s) then some (mkFold (spl 10 s)) else none) else none
/-! What the program reads -/
def linesR (s : Str) : Option (List Str) := if s = [] then some [] else if s.getLast? = some 10 then some (spl 10 s.dropLast) else none
def itR (s : Str) : Option It := if itemB (itOf s) then some (itOf s) else none
def itLn (l : Str) : Option It := if (spn 32 4 l).length = 5 then itR ((spn 32 4 l).getLast?.getD []) else none
def pmR (s : Str) : Option MM := match linesR s with
 | none => none
 | some ls => if 3 <= ls.length /\ ls.length <= 17 then (match mkRead ls.length 0 ls [] [] with | none => none | some m => if marksB m.1 m.2 then some m else none) else none
def slR (s : Str) : Option SL := match oAll intR (spl 32 s) with
 | some [a, b, c] => if slipB a b c then some (a, b, c) else none
 | _ => none
/-! A protocol's lines -/
section
variable {els : List El} {lims : List Int} {q0 q1 q2 q3 : Int} {its : List It} {gg kk : List (List Int)} {s1 s2 s3 sk fa : Int}
theorem pro_of (h : proB els lims q0 q1 q2 q3 its gg kk s1 s2 s3 sk fa = true) : (∀ it ∈ its, itemB it = true) /\ PerfG els q0 q1 q2 q3 its gg kk s1 s2 s3 /\ (10 <= fa /\ fa <= 400) /\ (1 <= sk /\ sk <= 999) := by
 simp only [proB, Bool.and_eq_true] at h;have h1 := ask_of h.1;refine ⟨?_, h1.1, h1.2, inB_iff.1 h.2⟩;have h2 := h.1;simp only [askB, perfB, judgedB, progB, itemsB, Bool.and_eq_true] at h2;exact List.all_eq_true.1 h2.1.1.1.2.1.1
theorem mkV_of (h : marksB gg kk = true) : MkV gg kk := by
 have hm := marksB_of h;refine ⟨hm.1, hm.2.1, fun l hl n hn => ?_, fun l hl n hn => ?_⟩
 ·
  obtain ⟨k, hk, rfl⟩ := List.getElem_of_mem hl;have := (hm.2.2.2 k hk).2 n (by simpa [hk] using hn);omega
 ·
  obtain ⟨k, hk, rfl⟩ := List.getElem_of_mem hl;simp only [marksB, Bool.and_eq_true] at h;have h2 := List.all_eq_true.1 h.2.1.2 _ (List.getElem_mem hk);simp only [cRowB, Bool.and_eq_true] at h2;have := List.all_eq_true.1 h2.2 n hn;simp only [compB, Bool.and_eq_true] at this;exact inB_iff.1 this.1
theorem read_itoa (h0 : 0 <= n) (h : n.toNat < 10 ^ (m + 1)) : readL (m + 1) (Lib.itoa n) = n := by
 unfold Lib.itoa;rw [if_neg Om, read_num h];omega
theorem itoa32 (n : Int) : (32 : UInt8) ∉ Lib.itoa n := itoa_no (by decide) (by decide)
theorem itoa10 (n : Int) : (10 : UInt8) ∉ Lib.itoa n := itoa_no (by decide) (by decide)
theorem line_parts (hit : ∀ it ∈ its, itemB it = true) (k : Nat) (hk : k < its.length) : ∃ a b c : Str, (32 : UInt8) ∉ a /\ (32 : UInt8) ∉ b /\ (32 : UInt8) ∉ c /\ (10 : UInt8) ∉ a /\ (10 : UInt8) ∉ b /\ (10 : UInt8) ∉ c /\
  lineL els q0 q1 q2 its gg k = Lib.itoa ((k : Int) + 1) ++ 32 :: (a ++ 32 :: (b ++ 32 :: (c ++ 32 :: itemL (its[k]?.getD zIt)))) := by
 have hi := hit _ (getD_mem zIt its k hk);have h2 := item_of hi;refine ⟨(poS (baseV els q0 q1 q2 its k)).data.toList, (poS (ptsV els q0 q1 q2 its k (gg[k]?.getD []))).data.toList, (poS (baseV els q0 q1 q2 its k + ptsV els q0 q1 q2 its k (gg[k]?.getD []))).data.toList, poS_no (c := 32) (by decide), poS_no (c := 32) (by decide), poS_no (c := 32) (by decide), poS_no (c := 10) (by decide), poS_no (c := 10) (by decide), poS_no (c := 10) (by decide), ?_⟩;unfold lineL lineS lineA;simp only [ba_app, numS_list (show (0 : Int) <= (k : Int) + 1 by omega), itemS_list h2.2.1 h2.1.1];simp only [List.append_assoc]
 rfl
theorem line_no10 (hit : ∀ it ∈ its, itemB it = true) (k : Nat) (hk : k < its.length) : (10 : UInt8) ∉ lineL els q0 q1 q2 its gg k := by
 obtain ⟨a, b, c, _, _, _, h1, h2, h3, e⟩ := line_parts (els := els) (q0 := q0) (q1 := q1) (q2 := q2) (gg := gg) hit k hk;have h4 := itemL_no (itV_of (hit _ (getD_mem zIt its k hk))) (c := 10) (by decide) (by decide) (by decide) (by decide) (by decide) (by decide) (by decide);rw [e];simp [itoa10, h1, h2, h3, h4]
theorem totTo_no {l : List Int} {c : UInt8} (h : okP c = false) (h2 : c ∉ totP.data.toList) (h3 : c ≠ 32) : ∀ k, c ∉ (totTo l k).data.toList
 | 0 => by rw [totTo]; exact h2
 | k + 1 => by
  rw [totTo, ba_app, ba_app];intro hm
  rcases List.mem_append.1 hm with hm | hm
  ·
   exact totTo_no h h2 h3 k hm
  ·
   rcases List.mem_append.1 hm with hm | hm
   ·
    simp at hm; exact h3 hm
   ·
    exact poS_no h hm
theorem totTo_head {l : List Int} : ∀ k, ∃ r, (totTo l (k + 1)).data.toList = totP.data.toList ++ 32 :: r
 | 0 => ⟨(poS (l[0]?.getD 0)).data.toList, by rw [totTo, totTo, ba_app, ba_app]; rfl⟩
 | k + 1 => by
  obtain ⟨r, hr⟩ := totTo_head (l := l) k;exact ⟨r ++ 32 :: (poS (l[k + 1]?.getD 0)).data.toList, by rw [totTo, ba_app, ba_app, hr, List.append_assoc]; rfl⟩
def totL (els : List El) (q0 q1 q2 q3 : Int) (its : List It) (gg kk : List (List Int)) (s1 s2 s3 fa : Int) : Str := (totS els q0 q1 q2 q3 its gg kk s1 s2 s3 fa).data.toList
theorem tot_no10 : (10 : UInt8) ∉ totL els q0 q1 q2 q3 its gg kk s1 s2 s3 fa := totTo_no (by decide) (by decide) (by decide) 4
theorem tot_head : wHd (totL els q0 q1 q2 q3 its gg kk s1 s2 s3 fa) = [116, 111, 116, 97, 108, 115] := by
 obtain ⟨r, hr⟩ := totTo_head (l := partsP els q0 q1 q2 q3 its gg kk s1 s2 s3 fa) 3;unfold wHd totL totS;rw [hr, spl_cut 32 _ _ (by decide)]
 rfl
theorem pro_no10 (hit : ∀ it ∈ its, itemB it = true) : ∀ l ∈ proL els q0 q1 q2 q3 its gg kk s1 s2 s3 sk fa, (10 : UInt8) ∉ l := by
 intro l hl;unfold proL at hl;simp only [List.mem_cons, List.mem_append, List.not_mem_nil, or_false] at hl
 rcases hl with rfl | hl | hl | rfl | rfl
 ·
  simp [hdrL, wPro, itoa10]
 ·
  unfold linesL at hl;obtain ⟨k, hk, rfl⟩ := List.mem_map.1 hl;exact line_no10 hit k (by simpa using hk)
 ·
  exact rows_no10 l hl
 ·
  simp [slipL, wSli, itoa10]
 ·
  exact tot_no10
theorem spl_pro (hit : ∀ it ∈ its, itemB it = true) (hsk : 1 <= sk /\ sk <= 999) (hfa : 10 <= fa /\ fa <= 400) : spl 10 (textV els q0 q1 q2 q3 its gg kk s1 s2 s3 sk fa).data.toList = proL els q0 q1 q2 q3 its gg kk s1 s2 s3 sk fa ++ [[]] := by
 rw [textV_list hsk hfa, spl_ends 10 _ (pro_no10 hit)]
end
theorem spl_hdr (sk fa : Int) : spl 32 (hdrL sk fa) = [wPro, Lib.itoa sk, Lib.itoa fa] := by
 unfold hdrL;rw [spl_cut 32 wPro _ (by decide), spl_cut 32 _ _ (itoa32 sk), spl_no 32 _ (itoa32 fa)]
theorem spl_slip (a b c : Int) : spl 32 (slipL a b c) = [Lib.itoa a, Lib.itoa b, Lib.itoa c] := by
 unfold slipL;rw [spl_cut 32 _ _ (itoa32 a), spl_cut 32 _ _ (itoa32 b), spl_no 32 _ (itoa32 c)]
theorem spStep_hdr (st : St) (hsk : 1 <= sk /\ sk <= 999) (hfa : 10 <= fa /\ fa <= 400) : spStep st (hdrL sk fa) = { st with sk := sk, fa := fa } := by
 have h : wHd (hdrL sk fa) = wPro /\ (spl 32 (hdrL sk fa)).length = 3 := by unfold wHd; rw [spl_hdr]; exact ⟨rfl, rfl⟩
 rw [spStep, if_pos h, spl_hdr];have e1 := read_itoa (m := 5) (n := sk) Om Om;have e2 := read_itoa (m := 5) (n := fa) Om Om;simp [e1, e2]
theorem spStep_slip (st : St) {a b c : Int} (h : slipB a b c = true) : spStep st (wSli ++ 32 :: slipL a b c) = { st with sl := (a, b, c) } := by
 have hs := slip_of h;have hh : wHd (wSli ++ 32 :: slipL a b c) = wSli := by unfold wHd; rw [spl_cut 32 wSli _ (by decide)]; rfl
 rw [spStep, hh, if_neg (by rintro ⟨h1, _⟩; revert h1; decide), if_pos rfl, behL_cut (n := 0) (by decide), if_pos rfl, dcP, spl_slip];have e1 := read_itoa (m := 5) (n := a) Om Om;have e2 := read_itoa (m := 5) (n := b) Om Om;have e3 := read_itoa (m := 5) (n := c) Om Om;simp [e1, e2, e3, h]
theorem spStep_row (st : St) {tag : UInt8} (ht : tag = 103 ∨ tag = 99) (l : List Int) : spStep st (rowL tag l) = { st with ms := st.ms ++ (rowL tag l ++ [10]) } := by
 have hh : wHd (rowL tag l) = [tag] := by unfold wHd; rw [spl_row tag (by rcases ht with rfl | rfl <;> decide)]; rfl
 rw [spStep, hh]
 rcases ht with rfl | rfl
 ·
  rw [if_neg (by rintro ⟨h1, _⟩; revert h1; decide), if_neg (by decide), if_pos (.inl rfl)]
 ·
  rw [if_neg (by rintro ⟨h1, _⟩; revert h1; decide), if_neg (by decide), if_pos (.inr rfl)]
theorem spStep_nil (st : St) : spStep st [] = st := by
 have hh : wHd [] = [] := rfl;rw [spStep, hh, if_neg (by rintro ⟨h1, _⟩; revert h1; decide), if_neg (by decide), if_neg (by decide), if_neg (by decide)]
theorem itP_item (h : itemB it = true) : itP (itemL it) = it := by
 have h2 := item_of h;unfold itP;rw [itOf_item (itV_of h), h, itemS_list h2.2.1 h2.1.1]
 simp
theorem itR_item (h : itemB it = true) : itR (itemL it) = some it := by
 unfold itR;rw [itOf_item (itV_of h), if_pos h]
section
variable {els : List El} {lims : List Int} {q0 q1 q2 q3 : Int} {its : List It} {gg kk : List (List Int)} {s1 s2 s3 sk fa : Int}
theorem spStep_tot (st : St) : spStep st (totL els q0 q1 q2 q3 its gg kk s1 s2 s3 fa) = st := by
 rw [spStep, tot_head, if_neg (by rintro ⟨h1, _⟩; revert h1; decide), if_neg (by decide), if_neg (by decide), if_neg (by decide)]
theorem spStep_line (st : St) (hit : ∀ it ∈ its, itemB it = true) (h14 : its.length <= 14) (k : Nat) (hk : k < its.length) : spStep st (lineL els q0 q1 q2 its gg k) = { st with its := st.its ++ [its[k]?.getD zIt] } := by
 obtain ⟨a, b, c, h1, h2, h3, _, _, _, e⟩ := line_parts (els := els) (q0 := q0) (q1 := q1) (q2 := q2) (gg := gg) hit k hk;rw [e];have e1 := read_itoa (m := 5) (n := (k : Int) + 1) Om Om;have hh : wHd (Lib.itoa ((k : Int) + 1) ++ 32 :: (a ++ 32 :: (b ++ 32 :: (c ++ 32 :: itemL (its[k]?.getD zIt))))) = Lib.itoa ((k : Int) + 1) := by unfold wHd; rw [spl_cut 32 _ _ (itoa32 _)]; rfl
 have hno : ∀ w : Str, readL 6 w = -1 -> Lib.itoa ((k : Int) + 1) ≠ w := fun w hw he => by rw [<- he, e1] at hw; omega
 rw [spStep, hh, if_neg (fun h => hno wPro (by decide) h.1), if_neg (hno wSli (by decide)), if_neg (by rintro (h | h); exact hno [103] (by decide) h; exact hno [99] (by decide) h), if_pos (by rw [e1]; omega)];rw [behL_cut (n := 3) (itoa32 _), if_neg Om, behL_cut (n := 2) h1, if_neg Om, behL_cut (n := 1) h2, if_neg Om, behL_cut (n := 0) h3, if_pos rfl, itP_item (hit _ (getD_mem zIt its k hk))]
theorem fold_lines (hit : ∀ it ∈ its, itemB it = true) (h14 : its.length <= 14) (st : St) : ∀ k, k <= its.length -> ((List.range k).map (lineL els q0 q1 q2 its gg)).foldl spStep st = { st with its := st.its ++ its.take k }
 | 0, _ => by simp
 | k + 1, hk => by
  rw [List.range_succ, List.map_append, List.foldl_append, fold_lines hit h14 st k Om];simp only [List.map_cons, List.map_nil, List.foldl_cons, List.foldl_nil];rw [spStep_line _ hit h14 k Om, take_succ_getD zIt its k Om]
  simp
theorem fold_rows (tag : UInt8) (ht : tag = 103 ∨ tag = 99) : ∀ (L : List (List Int)) (st : St), (L.map (rowL tag)).foldl spStep st = { st with ms := st.ms ++ ends 10 (L.map (rowL tag)) }
 | [], st => by simp [ends]
 | l :: r, st => by
  rw [List.map_cons, List.foldl_cons, spStep_row st ht, fold_rows tag ht r];simp [ends]
theorem spRead_pro (hB : proB els lims q0 q1 q2 q3 its gg kk s1 s2 s3 sk fa = true) : spRead (textV els q0 q1 q2 q3 its gg kk s1 s2 s3 sk fa).data.toList = ⟨sk, fa, (s1, s2, s3), marksL gg kk, its⟩ := by
 obtain ⟨hit, hP, hfa, hsk⟩ := pro_of hB;unfold spRead;rw [spl_pro hit hsk hfa];unfold proL;rw [List.cons_append, List.foldl_cons, spStep_hdr _ hsk hfa, List.foldl_append, List.foldl_append, List.foldl_append];unfold linesL rowsL;rw [fold_lines hit hP.len _ _ (Nat.le_refl _), List.foldl_append, fold_rows 103 (.inl rfl), fold_rows 99 (.inr rfl)];simp only [List.foldl_cons, List.foldl_nil];rw [spStep_slip _ hP.slip];have := spStep_tot (els := els) (q0 := q0) (q1 := q1) (q2 := q2) (q3 := q3) (its := its) (gg := gg) (kk := kk) (s1 := s1) (s2 := s2) (s3 := s3) (fa := fa);unfold totL at this;rw [this, spStep_nil];simp [marksL, ends_append]
theorem mkR_marks (h : marksB gg kk = true) : mkR (marksL gg kk) = some (gg, kk) := by
 have h2 := specMarks_back (mkV_of h);unfold mkR;rw [if_pos h2.2, h2.1];simp [h, marksS_list]
/-! The program -/
theorem linesR_ends (a : Str) (r : List Str) (h : ∀ l ∈ a :: r, (10 : UInt8) ∉ l) : linesR (ends 10 (a :: r)) = some (a :: r) := by
 rw [<- join_ends];unfold linesR;rw [if_neg (by simp), if_pos (by simp), List.dropLast_concat, spl_join 10 a r h]
theorem itLn_line (hit : ∀ it ∈ its, itemB it = true) (k : Nat) (hk : k < its.length) : itLn (lineL els q0 q1 q2 its gg k) = some (its[k]?.getD zIt) := by
 obtain ⟨a, b, c, h1, h2, h3, _, _, _, e⟩ := line_parts (els := els) (q0 := q0) (q1 := q1) (q2 := q2) (gg := gg) hit k hk;rw [e];have hs : spn 32 4 (Lib.itoa ((k : Int) + 1) ++ 32 :: (a ++ 32 :: (b ++ 32 :: (c ++ 32 :: itemL (its[k]?.getD zIt))))) = [Lib.itoa ((k : Int) + 1), a, b, c, itemL (its[k]?.getD zIt)] := by
  rw [spn_cut 32 3 _ _ (itoa32 _), spn_cut 32 2 _ _ h1, spn_cut 32 1 _ _ h2, spn_cut 32 0 _ _ h3]
  rfl
 unfold itLn;rw [hs];exact (if_pos (by rfl)).trans (itR_item (hit _ (getD_mem zIt its k hk)))
theorem itLn_lines (hit : ∀ it ∈ its, itemB it = true) : ∀ k, k <= its.length -> oAll itLn ((List.range k).map (lineL els q0 q1 q2 its gg)) = some (its.take k)
 | 0, _ => by simp [oAll]
 | k + 1, hk => by
  rw [List.range_succ, List.map_append, take_succ_getD zIt its k Om];exact oAll_snoc (itLn_line hit k Om) (itLn_lines hit k Om)
theorem pmR_marks (h : marksB gg kk = true) : pmR (marksL gg kk) = some (gg, kk) := by
 have hv := mkV_of h;have hl : (rowsL gg kk).length = gg.length + 3 := by simp [rowsL, hv.1]
 have hls : linesR (marksL gg kk) = some (rowsL gg kk) := by
  cases hr : rowsL gg kk with
  | nil => rw [hr] at hl; simp at hl
  | cons a r =>
   have : marksL gg kk = ends 10 (a :: r) := by rw [<- hr]; rfl
   rw [this, linesR_ends a r (by rw [<- hr]; exact rows_no10)]
 unfold pmR;rw [hls];simp only;rw [hl, if_pos ⟨Om, by have := hv.2.1; omega⟩, show rowsL gg kk = gg.map (rowL 103) ++ kk.map (rowL 99) from rfl, mkRead_rows hv];simp [h]
theorem slR_slip (h : slipB s1 s2 s3 = true) : slR (slipL s1 s2 s3) = some (s1, s2, s3) := by
 have hs := slip_of h;unfold slR;have e : oAll intR (spl 32 (slipL s1 s2 s3)) = some [s1, s2, s3] := by
  rw [spl_slip];exact oAll_map (l := [s1, s2, s3]) (g := Lib.itoa) (fun x hx => intR_itoa (by simp at hx; omega) (by simp at hx; omega))
 rw [e];simp [h]
abbrev PR := List It × MM × SL × Int × Int
def lsIt (ls : List Str) : List Str := (ls.drop 1).take ((ls.length - 6) / 2)
def lsMk (ls : List Str) : List Str := (ls.drop (1 + (ls.length - 6) / 2)).take (ls.length - 2 - (1 + (ls.length - 6) / 2))
def lsSl (ls : List Str) : Str := ls[ls.length - 2]?.getD []
def imR2 (ls : List Str) : Option PR := match oAll intR (spl 32 (ls[0]?.getD [])).tail, oAll itLn (lsIt ls), pmR (Lib.join (lsMk ls) [10] ++ [10]), slR (Lib.trimPrefix (lsSl ls) (wSli ++ [32])) with
 | some [sk, fa], some its, some m, some sl => if wHd (ls[0]?.getD []) = wPro /\ Lib.hasPrefix (lsSl ls) (wSli ++ [32]) = true then some (its, m, sl, sk, fa) else none
 | _, _, _, _ => none
def imR (s : Str) : Option PR := match linesR s with
 | none => none
 | some ls => if 6 <= ls.length /\ s.length <= 4000 then imR2 ls else none
theorem imR_pro (hB : proB els lims q0 q1 q2 q3 its gg kk s1 s2 s3 sk fa = true) (hz : (textV els q0 q1 q2 q3 its gg kk s1 s2 s3 sk fa).data.toList.length <= 4000) : imR (textV els q0 q1 q2 q3 its gg kk s1 s2 s3 sk fa).data.toList = some (its, (gg, kk), (s1, s2, s3), sk, fa) := by
 obtain ⟨hit, hP, hfa, hsk⟩ := pro_of hB;have hv := mkV_of hP.mks;have hno := pro_no10 (els := els) (q0 := q0) (q1 := q1) (q2 := q2) (q3 := q3) (gg := gg) (kk := kk) (s1 := s1) (s2 := s2) (s3 := s3) (sk := sk) (fa := fa) hit;have hlr : linesR (textV els q0 q1 q2 q3 its gg kk s1 s2 s3 sk fa).data.toList = some (proL els q0 q1 q2 q3 its gg kk s1 s2 s3 sk fa) := by
  rw [textV_list hsk hfa];exact linesR_ends _ _ hno
 have hr : (rowsL gg kk).length = its.length + 3 := by simp [rowsL, hv.1, hP.glen]
 have hli : (linesL els q0 q1 q2 its gg).length = its.length := by simp [linesL]
 have hlen : (proL els q0 q1 q2 q3 its gg kk s1 s2 s3 sk fa).length = 2 * its.length + 6 := by
  unfold proL;simp only [List.length_cons, List.length_append, List.length_nil, hr, hli];omega
 have hn : ((proL els q0 q1 q2 q3 its gg kk s1 s2 s3 sk fa).length - 6) / 2 = its.length := Om;have h1 : lsIt (proL els q0 q1 q2 q3 its gg kk s1 s2 s3 sk fa) = linesL els q0 q1 q2 its gg := by
  unfold lsIt;rw [hn];unfold proL;rw [List.drop_succ_cons, List.drop_zero, List.take_left' hli]
 have h2 : lsMk (proL els q0 q1 q2 q3 its gg kk s1 s2 s3 sk fa) = rowsL gg kk := by
  unfold lsMk;rw [hn, hlen];unfold proL;rw [Nat.add_comm 1, List.drop_succ_cons, List.drop_left' hli, List.take_left' Om]
 have h3 : lsSl (proL els q0 q1 q2 q3 its gg kk s1 s2 s3 sk fa) = wSli ++ 32 :: slipL s1 s2 s3 := by
  unfold lsSl;rw [hlen, show 2 * its.length + 6 - 2 = (its.length + (its.length + 3)) + 1 by omega];unfold proL;rw [List.getElem?_cons_succ, List.getElem?_append_right Om, hli, Nat.add_sub_cancel_left, List.getElem?_append_right Om, hr, Nat.sub_self]
  rfl
 have h4 : oAll intR (spl 32 ((proL els q0 q1 q2 q3 its gg kk s1 s2 s3 sk fa)[0]?.getD [])).tail = some [sk, fa] := by
  show oAll intR (spl 32 (hdrL sk fa)).tail = _
  rw [spl_hdr];exact oAll_map (l := [sk, fa]) (g := Lib.itoa) (fun x hx => intR_itoa (by simp at hx; omega) (by simp at hx; omega))
 have h5 : wHd ((proL els q0 q1 q2 q3 its gg kk s1 s2 s3 sk fa)[0]?.getD []) = wPro := by
  show wHd (hdrL sk fa) = _
  unfold wHd; rw [spl_hdr]; rfl
 have h6 : Lib.join (rowsL gg kk) [10] ++ [10] = marksL gg kk := by
  cases hc : rowsL gg kk with
  | nil => rw [hc] at hr; simp at hr
  | cons a r => rw [join_ends, <- hc]; rfl
 have h7 : Lib.hasPrefix (wSli ++ 32 :: slipL s1 s2 s3) (wSli ++ [32]) = true := by
  unfold Lib.hasPrefix;rw [List.isPrefixOf_iff_prefix];exact ⟨slipL s1 s2 s3, by simp⟩
 have h8 : Lib.trimPrefix (wSli ++ 32 :: slipL s1 s2 s3) (wSli ++ [32]) = slipL s1 s2 s3 := by
  unfold Lib.trimPrefix;rw [if_pos h7];simp [wSli]
 unfold imR;rw [hlr];simp only;rw [if_pos ⟨Om, hz⟩];unfold imR2;have h9 := itLn_lines (els := els) (q0 := q0) (q1 := q1) (q2 := q2) (gg := gg) hit its.length (Nat.le_refl _);rw [List.take_of_length_le (Nat.le_refl _)] at h9;rw [h4, h1, h2, h3, h6, pmR_marks hP.mks, h8, slR_slip hP.slip, show linesL els q0 q1 q2 its gg = (List.range its.length).map (lineL els q0 q1 q2 its gg) from rfl, h9];simp [h5, h7]
end
def spR (s : Str) : Option PR := match mkR (spRead s).ms with
 | none => none
 | some m => some ((spRead s).its, m, (spRead s).sl, (spRead s).sk, (spRead s).fa)
def accB (els : List El) (lims : List Int) (q0 q1 q2 q3 : Int) (s : BA) (v : PR) : Bool :=
 proB els lims q0 q1 q2 q3 v.1 v.2.1.1 v.2.1.2 v.2.2.1.1 v.2.2.1.2.1 v.2.2.1.2.2 v.2.2.2.1 v.2.2.2.2 && ((textV els q0 q1 q2 q3 v.1 v.2.1.1 v.2.1.2 v.2.2.1.1 v.2.2.1.2.1 v.2.2.1.2.2 v.2.2.2.1 v.2.2.2.2).toList == s.toList)
def accP (els : List El) (lims : List Int) (q0 q1 q2 q3 : Int) (s : BA) : Option PR -> Option PR
 | none => none
 | some v => if accB els lims q0 q1 q2 q3 s v then some v else none
theorem accP_iff {els : List El} {lims : List Int} {r : Option PR} {v : PR} : accP els lims q0 q1 q2 q3 s r = some v ↔ r = some v /\ accB els lims q0 q1 q2 q3 s v = true := by
 cases r with
 | none => simp [accP]
 | some u =>
  simp only [accP];constructor
  ·
   intro h
   split at h
   ·
    rename_i hu
    have : u = v := by simpa using h
    subst this;exact ⟨rfl, hu⟩
   ·
    cases h
  ·
   rintro ⟨h1, h2⟩;have : u = v := by simpa using h1
   subst this;rw [if_pos h2]
def rdP (els : List El) (lims : List Int) (q0 q1 q2 q3 : Int) (s : BA) : Option PR :=
 if s.size <= 4000 then accP els lims q0 q1 q2 q3 s (spR s.data.toList) else none
theorem acc_text {els : List El} {lims : List Int} {v : PR} (h : accB els lims q0 q1 q2 q3 s v = true) : spR s.data.toList = some v /\ (s.size <= 4000 -> imR s.data.toList = some v) := by
 obtain ⟨its, ⟨gg, kk⟩, ⟨s1, s2, s3⟩, sk, fa⟩ := v;simp only [accB, Bool.and_eq_true, beq_iff_eq] at h;obtain ⟨hB, hs⟩ := h;rw [Lib.toList_data, Lib.toList_data] at hs;obtain ⟨_, hP, _, _⟩ := pro_of hB;refine ⟨?_, fun hz => ?_⟩
 ·
  unfold spR;rw [<- hs, spRead_pro hB];simp only;rw [mkR_marks hP.mks]
 ·
  rw [<- hs];exact imR_pro hB (by rw [hs, <- Lib.size_eq]; exact hz)
theorem rd_both (els : List El) (lims : List Int) (q0 q1 q2 q3 : Int) (s : BA) : accP els lims q0 q1 q2 q3 s (imR s.data.toList) = rdP els lims q0 q1 q2 q3 s := by
 have hz : ∀ v, imR s.data.toList = some v -> s.size <= 4000 := by
  intro v hv;unfold imR at hv
  split at hv
  ·
   cases hv
  ·
   split at hv
   ·
    rename_i h
    rw [Lib.size_eq];exact h.2
   ·
    cases hv
 cases h : accP els lims q0 q1 q2 q3 s (imR s.data.toList) with
 | some v =>
  obtain ⟨h1, h2⟩ := accP_iff.1 h;unfold rdP;rw [if_pos (hz v h1)];exact (accP_iff.2 ⟨(acc_text h2).1, h2⟩).symm
 | none =>
  unfold rdP
  split
  ·
   rename_i hs
   cases h3 : accP els lims q0 q1 q2 q3 s (spR s.data.toList) with
   | none => rfl
   | some v =>
    obtain ⟨h1, h2⟩ := accP_iff.1 h3;rw [accP_iff.2 ⟨(acc_text h2).2 hs, h2⟩] at h
    cases h
  ·
   rfl
theorem str_ne (h : s.size ≠ 0) : (s.toList == []) = false := by
 rw [Lib.toList_data, beq_eq_false_iff_ne];intro e;have : s.data.toList.length = 0 := by rw [e]; rfl
 rw [<- Lib.size_eq] at this;exact h this
theorem str_nil (h : s.size = 0) : s = ⟨#[]⟩ := by
 apply ByteArray.ext
 apply Array.eq_empty_of_size_eq_zero
 exact h
theorem byte_at (h : k < s.size) : s.data.toList[k]? = some s[k] := by
 rw [Array.getElem?_toList];exact Array.getElem?_eq_getElem h
theorem byte_take (h : k < s.size) : s.data.toList.take (k + 1) = s.data.toList.take k ++ [s[k]] := by
 rw [List.take_add_one, byte_at h]; rfl
def digsTo (s : BA) (k : Nat) : Bool := (s.data.toList.take k).all fun b => digB b.toNat
theorem digsTo_succ (h : k < s.size) : digsTo s (k + 1) = (digsTo s k && digB s[k].toNat) := by
 unfold digsTo; rw [byte_take h, List.all_append]; simp
theorem digsTo_all (s : BA) : digsTo s s.size = s.data.toList.all fun b => digB b.toNat := by
 unfold digsTo; rw [List.take_of_length_le (by rw [<- Lib.size_eq]; exact Nat.le_refl _)]
theorem valD_succ (h : k < s.size) : valD (s.data.toList.take (k + 1)) = 10 * valD (s.data.toList.take k) + ((s[k].toNat : Int) - 48) := by
 rw [byte_take h, valD_snoc]
theorem valD_bd (h : digsTo s k = true) (hk : k <= 12) : 0 <= valD (s.data.toList.take k) /\ valD (s.data.toList.take k) < 1000000000000 := by
 refine ⟨valD_nonneg h, ?_⟩;have h1 := valD_lt h;have h2 : (s.data.toList.take k).length <= 12 := by rw [List.length_take]; omega
 have h3 : (10 ^ (s.data.toList.take k).length : Nat) <= 10 ^ 12 := Nat.pow_le_pow_right Om h2;have h4 : ((10 ^ (s.data.toList.take k).length : Nat) : Int) <= 1000000000000 := by
  have h5 : 10 ^ (s.data.toList.take k).length <= 1000000000000 := h3;generalize 10 ^ (s.data.toList.take k).length = z at h5 ⊢;omega
 rw [Int.natCast_pow] at h4;exact Int.lt_of_lt_of_le h1 h4
theorem digB_lo (h : b < 48) : digB b = false := by unfold digB; rw [decide_eq_false (show ¬ 48 <= b by omega), Bool.false_and]
theorem digB_hi (h : 57 < b) : digB b = false := by unfold digB; rw [decide_eq_false (show ¬ b <= 57 by omega), Bool.and_false]
theorem digB_yes (h1 : 48 <= b) (h2 : b <= 57) : digB b = true := by unfold digB; rw [decide_eq_true h1, decide_eq_true h2]; rfl
theorem digsTo_no {s : BA} {k : Nat} (hk : k < s.size) (h : digB s[k].toNat = false) : digsTo s s.size = false := by
 rw [digsTo_all, Bool.eq_false_iff];intro hh;have := List.all_eq_true.1 hh s[k] (List.mem_of_getElem? (byte_at hk));rw [h] at this; cases this
theorem numOk_len0 (h : s.size = 0) : numOk m s.data.toList = false := by
 unfold numOk; rw [<- Lib.size_eq, h]; rfl
theorem numOk_long (h : m < s.size) : numOk m s.data.toList = false := by
 unfold numOk; rw [<- Lib.size_eq, show decide (s.size <= m) = false by simp; omega]; simp
theorem head_at (h : 0 < s.size) : s.data.toList.head? = some s[0] := by
 rw [List.head?_eq_getElem?]; exact byte_at h
theorem numOk_zero (h : 1 < s.size) (h0 : s[0].toNat = 48) : numOk m s.data.toList = false := by
 unfold numOk;have e : s[0] = 48 := UInt8.toNat_inj.1 h0;rw [head_at Om, <- Lib.size_eq, e];simp [h]
theorem numOk_digs (h0 : s.size ≠ 0) (hm : s.size <= m) (h : ¬ (1 < s.size /\ byteN s 0 = 48)) : numOk m s.data.toList = digsTo s s.size := by
 unfold numOk;rw [digsTo_all, head_at Om, <- Lib.size_eq, show decide (1 <= s.size) = true by simp; omega, show decide (s.size <= m) = true by simp; omega];have : (some s[0] == some (48 : UInt8) && decide (1 < s.size)) = false := by
  rw [Bool.and_eq_false_iff];by_cases h1 : 1 < s.size
  ·
   left
   rw [beq_eq_false_iff_ne];intro e;injection e with e;exact h ⟨h1, by unfold byteN; rw [dif_pos Om, e]; rfl⟩
  ·
   right; simpa using h1
 rw [this]
 simp
def natV (s : BA) : Int := if numOk 12 s.data.toList then valD s.data.toList else 0
theorem readL_neg {l : Str} (h : numOk m l = false) : readL m l = -1 := by unfold readL; rw [h]; rfl
theorem readL_yes {l : Str} (h : numOk m l = true) : readL m l = valD l := by unfold readL; rw [if_pos h]
def NatR (w : World) (s : BA) (e : Ending) (w' : World) : Prop := e = .returned (.tuple #[.int .i64 (natV s), .bool (numOk 12 s.data.toList)]) /\ w = w'
theorem natR_no (h : numOk 12 s.data.toList = false) (hw : w = w') : NatR w s (.returned (.tuple #[.int .i64 0, .bool false])) w' := ⟨by unfold natV; rw [h]; rfl, hw⟩
theorem natR_yes {v : Int} (h : numOk 12 s.data.toList = true) (hv : v = valD s.data.toList) (hw : w = w') : NatR w s (.returned (.tuple #[.int .i64 v, .bool true])) w' := ⟨by unfold natV; rw [h, hv]; rfl, hw⟩
theorem natural_any (s : BA) (w : World) (hs : s.size <= 1099511627776) :
  Calls Tryz.prog 220 #[.string s] w (NatR w s) := by
 by_cases hz : s.size = 0
 ·
  obtain rfl := str_nil hz;go_enter Tryz.func220, Tryz.ntmps220;go_wp2;go_ret2;exact natR_no (numOk_len0 hz) rfl
 have hne := str_ne hz;by_cases h12 : 12 < s.size
 ·
  have h12I : (12 : Int) < s.size := Om;go_enter Tryz.func220, Tryz.ntmps220;go_wp2;go_ret2;exact natR_no (numOk_long h12) rfl
 have h12I : ¬ (12 : Int) < s.size := Om;have h0 : 0 < s.size := Om;have hB0 : byteN s 0 = s[0].toNat := by unfold byteN; rw [dif_pos h0]
 by_cases h1 : 1 < s.size /\ byteN s 0 = 48
 ·
  have h1I : (1 : Int) < s.size := Om;have hdI : (s[0].toNat : Int) = 48 := by have := h1.2; omega
  have HE := Lib.hid (numOk_zero (m := 12) h1.1 (by rw [<- hB0]; exact h1.2));clear h1;go_enter Tryz.func220, Tryz.ntmps220;go_wp2;go_ret2;exact natR_no HE.out rfl
 have HOK := Lib.hid (numOk_digs (m := 12) hz Om h1);have hcase : (¬ (1 : Int) < s.size) ∨ ((1 : Int) < s.size /\ ¬ (s[0].toNat : Int) = 48) := by
  by_cases h2 : 1 < s.size
  ·
   refine .inr ⟨Om, fun e => h1 ⟨h2, Om⟩⟩
  ·
   exact .inl Om
 clear h1
 rcases hcase with h1I | ⟨h1I, hdI⟩
 all_goals
  go_enter Tryz.func220, Tryz.ntmps220;go_wp2
  go_loop [4, 5] (fun v i => ∃ k : Nat, k <= s.size /\ i = .int .i64 k /\ v = .int .i64 (valD (s.data.toList.take k)) /\ Hid (digsTo s k = true)) (fun _ i => s.size - (intOf i).toNat)
  case atStart => exact ⟨0, Om, rfl, rfl, rfl⟩
  case round =>
   obtain ⟨k, hk, rfl, rfl, HN⟩ := hrel;by_cases hlt : k < s.size
   ·
    have hb : s[k].toNat < 256 := s[k].toNat_lt;have hbd := valD_bd HN.out Om;have HS := Lib.hid (digsTo_succ hlt);have HV := Lib.hid (valD_succ hlt);have HF := Lib.hid (@digsTo_no s k hlt);generalize valD (s.data.toList.take k) = v at *;by_cases g1 : s[k].toNat < 48
    ·
     have g1I : (s[k].toNat : Int) < 48 := Om;have HE : Hid (numOk 12 s.data.toList = false) := by unfold Hid; rw [HOK.out]; exact HF.out (digB_lo g1)
     clear hbd;go_wp2;go_ret2;exact natR_no HE.out rfl
    ·
     by_cases g2 : 57 < s[k].toNat
     ·
      have g1I : ¬ (s[k].toNat : Int) < 48 := Om;have g2I : (57 : Int) < s[k].toNat := Om;have HE : Hid (numOk 12 s.data.toList = false) := by unfold Hid; rw [HOK.out]; exact HF.out (digB_hi g2)
      clear hbd;go_wp2;go_ret2;exact natR_no HE.out rfl
     ·
      have g1I : ¬ (s[k].toNat : Int) < 48 := Om;have g2I : ¬ (57 : Int) < s[k].toNat := Om;have e1 : IntKind.i64.wrap (10 * v) = 10 * v := IntWalk.i64_in _ Om;have e2 : IntKind.u8.wrap ((s[k].toNat : Int) - 48) = (s[k].toNat : Int) - 48 := IntWalk.u8_in _ Om;have e3 : IntKind.i64.wrap ((s[k].toNat : Int) - 48) = (s[k].toNat : Int) - 48 := IntWalk.i64_in _ Om;have e4 : IntKind.i64.wrap (10 * v + ((s[k].toNat : Int) - 48)) = 10 * v + ((s[k].toNat : Int) - 48) := IntWalk.i64_in _ Om;go_wp2
      go_round
      case rel => exact ⟨k + 1, Om, by go_num, by rw [HV.out], by rw [HS.out, HN.out, digB_yes Om Om]; rfl⟩
      case measure => simp [intOf]; omega
   ·
    obtain rfl : k = s.size := Om;have HE : Hid (numOk 12 s.data.toList = true) := by unfold Hid; rw [HOK.out]; exact HN.out
    have HV : Hid (valD (s.data.toList.take s.size) = valD s.data.toList) := by unfold Hid; rw [List.take_of_length_le (by rw [<- Lib.size_eq]; exact Nat.le_refl _)]
    go_wp2;go_ret2;exact natR_yes HE.out HV.out rfl
theorem l1Read_any (s : BA) (w : World) (hs : s.size <= 1099511627776) :
  Calls Tryz.prog 100 #[.string s] w fun e w' => e = .returned (.int .i64 (readL 6 s.data.toList)) /\ w = w' := by
 have cl := fun W => l1In_any (s.size : Int) 1 6 W
 by_cases hz : s.size = 0
 ·
  obtain rfl := str_nil hz;have cl0 := fun W => l1In_any 0 1 6 W
  rw [show inB 0 1 6 = false from rfl] at cl0;go_enter Tryz.func100, Tryz.ntmps100;go_wp2_with (go_at_call 60; (with_reducible refine ep (cl0 _) ?_))
  go_ret;exact ⟨ret_int (by rw [readL_neg (numOk_len0 hz)]), rfl⟩
 by_cases h12 : 6 < s.size
 ·
  rw [show inB (s.size : Int) 1 6 = false by simp [inB]; omega] at cl;go_enter Tryz.func100, Tryz.ntmps100;go_wp2_with (go_at_call 60; (with_reducible refine ep (cl _) ?_))
  go_ret;exact ⟨ret_int (by rw [readL_neg (numOk_long h12)]), rfl⟩
 rw [show inB (s.size : Int) 1 6 = true by simp [inB]; omega] at cl;have h0 : 0 < s.size := Om;have hB0 : byteN s 0 = s[0].toNat := by unfold byteN; rw [dif_pos h0]
 by_cases h1 : 1 < s.size /\ byteN s 0 = 48
 ·
  have h1I : (1 : Int) < s.size := Om;have hdI : (s[0].toNat : Int) = 48 := by have := h1.2; omega
  have HE := Lib.hid (numOk_zero (m := 6) h1.1 (by rw [<- hB0]; exact h1.2));clear h1;go_enter Tryz.func100, Tryz.ntmps100;go_wp2_with (go_at_call 60; (with_reducible refine ep (cl _) ?_))
  go_ret;exact ⟨ret_int (by rw [readL_neg HE.out]), rfl⟩
 have HOK := Lib.hid (numOk_digs (m := 6) hz Om h1);have hcase : (¬ (s[0].toNat : Int) = 48) ∨ ((s[0].toNat : Int) = 48 /\ ¬ (1 : Int) < s.size) := by
  by_cases h2 : s[0].toNat = 48
  ·
   refine .inr ⟨Om, fun e => h1 ⟨Om, Om⟩⟩
  ·
   exact .inl Om
 clear h1
 rcases hcase with hdI | ⟨hdI, h1I⟩
 all_goals
  go_enter Tryz.func100, Tryz.ntmps100;go_wp2_with (go_at_call 60; (with_reducible refine ep (cl _) ?_))
  go_loop [3, 4] (fun v i => ∃ k : Nat, k <= s.size /\ i = .int .i64 k /\ v = .int .i64 (valD (s.data.toList.take k)) /\ Hid (digsTo s k = true)) (fun _ i => s.size - (intOf i).toNat)
  case atStart => exact ⟨0, Om, rfl, rfl, rfl⟩
  case round =>
   obtain ⟨k, hk, rfl, rfl, HN⟩ := hrel;by_cases hlt : k < s.size
   ·
    have hb : s[k].toNat < 256 := s[k].toNat_lt;have hbd := valD_bd HN.out Om;have HS := Lib.hid (digsTo_succ hlt);have HV := Lib.hid (valD_succ hlt);have HF := Lib.hid (@digsTo_no s k hlt);generalize valD (s.data.toList.take k) = v at *;by_cases g1 : s[k].toNat < 48
    ·
     have g1I : (s[k].toNat : Int) < 48 := Om;have HE : Hid (numOk 6 s.data.toList = false) := by unfold Hid; rw [HOK.out]; exact HF.out (digB_lo g1)
     clear hbd;go_wp2;go_ret;exact ⟨ret_int (by rw [readL_neg HE.out]), rfl⟩
    ·
     by_cases g2 : 57 < s[k].toNat
     ·
      have g1I : ¬ (s[k].toNat : Int) < 48 := Om;have g2I : (57 : Int) < s[k].toNat := Om;have HE : Hid (numOk 6 s.data.toList = false) := by unfold Hid; rw [HOK.out]; exact HF.out (digB_hi g2)
      clear hbd;go_wp2;go_ret;exact ⟨ret_int (by rw [readL_neg HE.out]), rfl⟩
     ·
      have g1I : ¬ (s[k].toNat : Int) < 48 := Om;have g2I : ¬ (57 : Int) < s[k].toNat := Om;have e1 : IntKind.i64.wrap (10 * v) = 10 * v := IntWalk.i64_in _ Om;have e2 : IntKind.u8.wrap ((s[k].toNat : Int) - 48) = (s[k].toNat : Int) - 48 := IntWalk.u8_in _ Om;have e3 : IntKind.i64.wrap ((s[k].toNat : Int) - 48) = (s[k].toNat : Int) - 48 := IntWalk.i64_in _ Om;have e4 : IntKind.i64.wrap (10 * v + ((s[k].toNat : Int) - 48)) = 10 * v + ((s[k].toNat : Int) - 48) := IntWalk.i64_in _ Om;go_wp2
      go_round
      case rel => exact ⟨k + 1, Om, by go_num, by rw [HV.out], by rw [HS.out, HN.out, digB_yes Om Om]; rfl⟩
      case measure => simp [intOf]; omega
   ·
    obtain rfl : k = s.size := Om;have HE : Hid (numOk 6 s.data.toList = true) := by unfold Hid; rw [HOK.out]; exact HN.out
    have HV : Hid (valD (s.data.toList.take s.size) = valD s.data.toList) := by unfold Hid; rw [List.take_of_length_le (by rw [<- Lib.size_eq]; exact Nat.le_refl _)]
    go_wp2;go_ret;exact ⟨ret_int (by rw [readL_yes HE.out, HV.out]), rfl⟩
def spls (c : UInt8) (s : BA) : List BA := (spl c s.data.toList).map bs
theorem map_bs_data (l : List BA) : (l.map (·.data.toList)).map bs = l := by
 rw [List.map_map]
 conv => rhs; rw [<- List.map_id l]
 exact List.map_congr_left fun s _ => bs_of s
theorem map_data_bs (l : List Str) : (l.map bs).map (·.data.toList) = l := by
 rw [List.map_map]
 conv => rhs; rw [<- List.map_id l]
 exact List.map_congr_left fun s _ => bs_data s
theorem spls_data (c : UInt8) (s : BA) : (spls c s).map (·.data.toList) = spl c s.data.toList := map_data_bs _
theorem spls_len (c : UInt8) (s : BA) : (spls c s).length = s.data.toList.count c + 1 := by unfold spls; rw [List.length_map, spl_len]
theorem spls_pos (c : UInt8) (s : BA) : 1 <= (spls c s).length := by rw [spls_len]; omega
theorem spls_bd (c : UInt8) (s : BA) : (spls c s).length <= s.size + 1 := by
 rw [spls_len];have := List.count_le_length (a := c) (l := s.data.toList);rw [<- Lib.size_eq] at this;omega
theorem spls_at (c : UInt8) (s : BA) (k : Nat) : ((spls c s)[k]?.getD ByteArray.empty).data.toList = (spl c s.data.toList)[k]?.getD [] := by
 unfold spls;rw [List.getElem?_map]
 cases (spl c s.data.toList)[k]? with
 | none => rfl
 | some x => exact bs_data x
def Mxl (w : World) : Prop := ∃ m, w.cell? ⟨1, 0, none⟩ = some (.int .i64 m)
theorem Mxl.below (h : Mxl w) (hb : Below w.heap.size w w') : Mxl w' := by
 obtain ⟨m, hm⟩ := h;exact ⟨m, (hb.cell (p := ⟨1, 0, none⟩) (World.block_lt_of_cell? w _ hm)).trans hm⟩
theorem splitB_spls (c : UInt8) (s : BA) : Lib.splitB ⟨#[c]⟩ 0 (Lib.countB s ⟨#[c]⟩) s = spls c s := by
 rw [<- map_bs_data (Lib.splitB _ _ _ _), Lib.splitB_data];unfold spls
 congr 1
 exact split_spl c s.data.toList
theorem split_any (s : BA) (c : UInt8) (w : World) (hs : s.size <= 2000000) (hM : Mxl w) :
  Calls Tryz.prog 54 #[.string s, .string ⟨#[c]⟩] w (RetT w (spls c s)) := by
 obtain ⟨m, hm⟩ := hM;refine (Tryz.strings_Split s ⟨#[c]⟩ m w Om hm (Nat.le_refl 1)).mono ?_;rintro e w' ⟨rfl, rfl⟩;have hl : Lib.countB s ⟨#[c]⟩ + 1 = (spls c s).length := by rw [<- splitB_spls, Lib.splitB_all ⟨#[c]⟩ (Nat.le_refl 1) 0 _ s rfl]
 rw [hl, splitB_spls];exact RetT.mk_ (OwT.lit_ (Below.refl w.heap.size w) (spls c s) (by have := spls_bd c s; unfold maxLen; omega) _ (by simp)) (Nat.le_refl _) bL
def RetRT (w : World) (l : List BA) (e : Ending) (w' : World) : Prop := ∃ A n c x, e = .returned (.slice A n c) /\ w' = ext w x /\ RdT (ext w x) A n l
def spns (s : BA) : List BA := (spn 32 4 s.data.toList).map bs
theorem spn_min (c : UInt8) (l : Str) : spn c (min 5 (l.length + 1) - 1) l = spn c 4 l := by
 by_cases h : 4 <= l.length
 ·
  rw [show min 5 (l.length + 1) - 1 = 4 by omega]
 ·
  have h1 := List.count_le_length (a := c) (l := l);rw [spn_all c _ l Om, spn_all c 4 l Om]
theorem splitN_any (s : BA) (w : World) (hs : s.size <= 2000000) (hM : Mxl w) :
  Calls Tryz.prog 131 #[.string s, .string ⟨#[32]⟩, .int .i64 5] w (RetRT w (spns s)) := by
 obtain ⟨m, hm⟩ := hM;refine (Tryz.strings_SplitN s ⟨#[32]⟩ 5 m w Om hm (Nat.le_refl 1) Om Om).mono ?_;rintro e w' ⟨rfl, rfl⟩;have hl : Lib.splitB ⟨#[32]⟩ 0 (min 5 (s.size + 1) - 1) s = spns s := by
  rw [<- map_bs_data (Lib.splitB _ _ _ _), Lib.splitB_data, splitK_spn, Lib.size_eq, spn_min]
  rfl
 rw [hl];obtain ⟨x, hx⟩ := ext_ex (show Below w.heap.size w (w.alloc (.cells (Lib.cellsOf (spns s) (min 5 (s.size + 1))) 9)) from bL);refine ⟨_, _, _, x, rfl, hx, ?_⟩;rw [<- hx];refine ⟨by simp, fun _ => ⟨w.heap.size, 0, rfl, by simp [go_sem], fun j u hu => ?_⟩⟩;rw [Nat.zero_add];have : (Lib.cellsOf (spns s) (min 5 (s.size + 1)))[j]? = some u := by
  unfold Lib.cellsOf;rw [List.getElem?_toArray];exact (List.getElem?_append_left (List.getElem?_eq_some_iff.1 hu).1).trans hu
 rw [<- this];simp [go_sem]
theorem last_at (h : s.size ≠ 0) : s.data.toList.getLast? = some (s[s.size - 1]'Om) := by
 rw [List.getLast?_eq_getElem?, <- Lib.size_eq];exact byte_at Om
def lnsO (s : BA) : List BA := ((linesR s.data.toList).getD []).map bs
def lnsK (s : BA) : Bool := (linesR s.data.toList).isSome
def RetTK (w : World) (l : List BA) (ok : Bool) (e : Ending) (w' : World) : Prop := ∃ A n c x, e = .returned (.tuple #[.slice A n c, .bool ok]) /\ w' = ext w x /\ OwT w.heap.size (ext w x) A n c l
theorem RetTK.mk_ {base : Nat} {A : OA} {n c : Nat} {l l' : List BA} {ok ok' : Bool} (ho : OwT base W A n c l') (hl : l' = l) (hk : ok' = ok) (hbase : w.heap.size <= base) (hb : Below w.heap.size w W) : RetTK w l ok (.returned (.tuple #[.slice A n c, .bool ok'])) W := by
 subst hl hk;obtain ⟨x, rfl⟩ := ext_ex hb;exact ⟨A, n, c, x, rfl, rfl, ho.mono hbase⟩
theorem linesOf_any (s : BA) (w : World) (hs : s.size <= 2000000) (hM : Mxl w) :
  Calls Tryz.prog 87 #[.string s] w (RetTK w (lnsO s) (lnsK s)) := by
 by_cases hz : s.size = 0
 ·
  obtain rfl := str_nil hz;go_enter Tryz.func87, Tryz.ntmps87;go_wp2;go_ret2;exact RetTK.mk_ (l' := []) (OwT.lit_ (Below.refl w.heap.size w) [] (by simp [maxLen]) #[] rfl) rfl rfl (Nat.le_refl _) bL
 have hne := str_ne hz;have hla := last_at hz;have hnl : s.data.toList ≠ [] := by intro e; rw [Lib.size_eq, e] at hz; exact hz rfl
 have hlt : s.size - 1 < s.size := Om;have e1 : IntKind.i64.wrap ((s.size : Int) - 1) = ((s.size - 1 : Nat) : Int) := by rw [IntWalk.i64_in _ Om]; omega
 by_cases hb : s[s.size - 1].toNat = 10
 ·
  have hbI : (s[s.size - 1].toNat : Int) = 10 := Om;have hR : linesR s.data.toList = some (spl 10 s.data.toList.dropLast) := by
   unfold linesR;rw [if_neg hnl, if_pos];rw [hla]
   congr 1
   exact UInt8.toNat_inj.1 hb
  have hx : (s.extract 0 (s.size - 1)).data.toList = s.data.toList.dropLast := by rw [Lib.extract_data, List.drop_zero, List.dropLast_eq_take, <- Lib.size_eq]; rfl
  have HL : Hid (lnsO s = spls 10 (s.extract 0 (s.size - 1))) := by unfold Hid lnsO spls; rw [hR, hx]; rfl
  have HK : Hid (lnsK s = true) := by unfold Hid lnsK; rw [hR]; rfl
  have hxs : (s.extract 0 (s.size - 1)).size <= 2000000 := by rw [Lib.size_eq, hx, List.length_dropLast, <- Lib.size_eq]; omega
  have csp := fun W h => split_any (s.extract 0 (s.size - 1)) 10 W hxs (hM.below h)
  clear hla hnl hx hR hM;go_enter Tryz.func87, Tryz.ntmps87;go_wp2_with ((go_at_call 54; ((with_reducible refine (csp _ bL).mono ?_); rintro e w' ⟨A1, n1, c1, x1, rfl, rfl, o1⟩)))
  go_ret2;exact RetTK.mk_ o1 (by rw [HL.out]) (by rw [HK.out]) (Nat.le_refl _) bL
 ·
  have hbI : ¬ (s[s.size - 1].toNat : Int) = 10 := Om;have hR : linesR s.data.toList = none := by
   unfold linesR;rw [if_neg hnl, if_neg];rw [hla];intro e;injection e with e;exact hb (by rw [e]; rfl)
  have HL : Hid (lnsO s = []) := by unfold Hid lnsO; rw [hR]; rfl
  have HK : Hid (lnsK s = false) := by unfold Hid lnsK; rw [hR]; rfl
  clear hla hnl hR;go_enter Tryz.func87, Tryz.ntmps87;go_wp2;go_ret2;exact RetTK.mk_ OwT.nil_ (by rw [HL.out]) (by rw [HK.out]) (Nat.le_refl _) bL
theorem l1Split_any (s : BA) (c : UInt8) (d : Int) (hd : d = c.toNat) (w : World) (hs : s.size <= 2000000) :
  Calls Tryz.prog 55 #[.string s, .int .u8 d] w (RetT w (spls c s)) := by
 have hc : c.toNat < 256 := c.toNat_lt;have hd0 : 0 <= d /\ d < 256 := Om;have HD := Lib.hid hd;clear hd;go_enter Tryz.func55, Tryz.ntmps55;go_wp2
 go_loopw [5, 6, 7] (fun t f i wr => ∃ (k j : Nat) (ws : List Str) (D : OA) (n dc : Nat) (y : World), k <= s.size /\ j <= k /\ i = .int .i64 k /\ f = .int .i64 j /\ t = .slice D n dc /\ wr = ext w y /\ OwT w.heap.size (ext w y) D n dc (ws.map bs) /\ n <= k /\ Hid (c ∉ (s.data.toList.drop j).take (k - j)) /\ Hid (ws ++ spl c (s.data.toList.drop j) = spl c s.data.toList)) (fun _ _ i _ => s.size - (intOf i).toNat)
 case atStart =>
  obtain ⟨y, hy⟩ := ext_ex (Below.refl w.heap.size w);exact ⟨0, 0, [], none, 0, 0, y, Om, Om, rfl, rfl, rfl, hy, OwT.nil_, Om, (by simp [Hid]), rfl⟩
 case round =>
  obtain ⟨k, j, ws, D, n, dc, y, hk, hj, rfl, rfl, rfl, rfl, ho, hn, HC, HW⟩ := hrel;by_cases hlt : k < s.size
  ·
   have hb : s[k].toNat < 256 := s[k].toNat_lt;have hpc : (s.data.toList.drop j).take (k + 1 - j) = (s.data.toList.drop j).take (k - j) ++ [s[k]] := by
    rw [show k + 1 - j = (k - j) + 1 by omega, List.take_add_one, List.getElem?_drop, show j + (k - j) = k by omega, byte_at hlt]; rfl
   by_cases he : s[k].toNat = c.toNat
   ·
    have heI : (s[k].toNat : Int) = d := by rw [HD.out]; omega
    have e2 : s[k] = c := UInt8.toNat_inj.1 he;have hx : (s.extract j k).data.toList = (s.data.toList.drop j).take (k - j) := Lib.extract_data s j k;have hsp : s.data.toList.drop j = (s.data.toList.drop j).take (k - j) ++ c :: s.data.toList.drop (k + 1) := by
     conv => lhs; rw [<- List.take_append_drop (k - j) (s.data.toList.drop j)]
     congr 1
     rw [List.drop_drop, show j + (k - j) = k by omega, List.drop_eq_getElem_cons (by rw [<- Lib.size_eq]; exact hlt)]
     congr 1
    have HW2 : Hid ((ws ++ [(s.data.toList.drop j).take (k - j)]) ++ spl c (s.data.toList.drop (k + 1)) = spl c s.data.toList) := by
     unfold Hid;rw [<- HW.out, hsp, spl_cut c _ _ HC.out, List.append_assoc, <- hsp]
     rfl
    have HM : Hid ((ws ++ [(s.data.toList.drop j).take (k - j)]).map bs = ws.map bs ++ [s.extract j k]) := by
     unfold Hid;rw [List.map_append, <- hx, List.map_cons, List.map_nil, bs_of]
    have hnb : n <= 1099511627776 := Om;clear hpc hsp hx HC HW he e2;generalize ws ++ [(s.data.toList.drop j).take (k - j)] = ws2 at *;generalize ws.map bs = wsb at *;go_wp2_with ((at_builtin; (refine wpl_push_strJ w _ _ _ ?_ rfl _ _ rfl D n dc _ rfl ho ?_ ?_ rfl hnb ?_); (focus (first | rfl | (simp; done))); exact bL; exact bL; intro D' c' y' ho' hg hd2))
    go_roundw
    case rel => exact ⟨k + 1, k + 1, ws2, D', n + 1, c', y', Om, Om, by go_num, by go_num, rfl, rfl, by rw [HM.out]; exact ho', Om, by simp [Hid], HW2⟩
    case measure => simp [intOf]; omega
   ·
    have heI : ¬ (s[k].toNat : Int) = d := by rw [HD.out]; omega
    have HC2 : Hid (c ∉ (s.data.toList.drop j).take (k + 1 - j)) := by
     unfold Hid;rw [hpc];intro hm
     rcases List.mem_append.1 hm with h | h
     ·
      exact HC.out h
     ·
      simp at h; exact he (by rw [h])
    clear hpc HC;go_wp2;go_roundw
    case rel => exact ⟨k + 1, j, ws, D, n, dc, y, Om, Om, by go_num, rfl, rfl, rfl, ho, Om, HC2, HW⟩
    case measure => simp [intOf]; omega
  ·
   obtain rfl : k = s.size := Om;have hx : (s.extract j s.size).data.toList = s.data.toList.drop j := by
    rw [Lib.extract_data, List.take_of_length_le (by rw [List.length_drop, <- Lib.size_eq]; exact Nat.le_refl _)]
   have HE : Hid (spls c s = ws.map bs ++ [s.extract j s.size]) := by
    unfold Hid spls;rw [<- HW.out, spl_no c _ (by have := HC.out; rwa [List.take_of_length_le (by rw [List.length_drop, <- Lib.size_eq]; exact Nat.le_refl _)] at this), List.map_append, <- hx, List.map_cons, List.map_nil, bs_of]
   have hnb : n <= 1099511627776 := Om;clear hx HC HW;generalize ws.map bs = wsb at *;go_wp2_with ((at_builtin; (refine wpl_push_strJ w _ _ _ ?_ rfl _ _ rfl D n dc _ rfl ho ?_ ?_ rfl hnb ?_); (focus (first | rfl | (simp; done))); exact bL; exact bL; intro D' c' y' ho' hg hd2))
   go_ret;rw [HE.out];exact RetT.mk_ ho' (Nat.le_refl _) bL
theorem ptBehind_any (s : BA) (n0 : Nat) (w : World) (h1 : 1 <= n0) (hn : n0 <= 1000) (hs : s.size <= 2000000) :
  Calls Tryz.prog 102 #[.string s, .int .i64 n0] w fun e w' => e = .returned (.string (bs (behL n0 s.data.toList))) /\ w = w' := by
 go_enter Tryz.func102, Tryz.ntmps102;go_wp2
 go_loop [1, 5] (fun v i => ∃ k n : Nat, k <= s.size /\ i = .int .i64 k /\ v = .int .i64 n /\ 1 <= n /\ n <= n0 /\ Hid (behL n (s.data.toList.drop k) = behL n0 s.data.toList)) (fun _ i => s.size - (intOf i).toNat)
 case atStart => exact ⟨0, n0, Om, rfl, rfl, h1, Om, rfl⟩
 case round =>
  obtain ⟨k, n, hk, rfl, rfl, hn1, hn2, HB⟩ := hrel;by_cases hlt : k < s.size
  ·
   have hb : s[k].toNat < 256 := s[k].toNat_lt;have hd : s.data.toList.drop k = s[k] :: s.data.toList.drop (k + 1) := by
    rw [List.drop_eq_getElem_cons (by rw [<- Lib.size_eq]; exact hlt)]
    congr 1
   have hbe := HB.out;rw [hd, behL] at hbe;by_cases he : s[k].toNat = 32
   ·
    have heI : (s[k].toNat : Int) = 32 := Om;have e2 : s[k] = 32 := UInt8.toNat_inj.1 he;rw [if_pos e2] at hbe;by_cases hn0 : n = 1
    ·
     subst hn0;rw [if_pos (Nat.le_refl 1)] at hbe;have hx : (s.extract (k + 1) s.size).data.toList = s.data.toList.drop (k + 1) := by
      rw [Lib.extract_data, List.take_of_length_le (by rw [List.length_drop, <- Lib.size_eq]; exact Nat.le_refl _)]
     have HE : Hid (s.extract (k + 1) s.size = bs (behL n0 s.data.toList)) := by unfold Hid; rw [<- hbe, <- hx, bs_of]
     clear hbe hx hd HB;go_wp2;go_ret;exact ⟨ret_str (by rw [<- HE.out]), rfl⟩
    ·
     rw [if_neg Om] at hbe;have HE := Lib.hid hbe;have e1 : IntKind.i64.wrap ((n : Int) - 1) = ((n - 1 : Nat) : Int) := by rw [IntWalk.i64_in _ Om]; omega
     have hn3 : ¬ (((n - 1 : Nat) : Int) = 0) := Om;clear hbe hd HB;go_wp2
     go_round
     case rel => exact ⟨k + 1, n - 1, Om, by go_num, rfl, Om, Om, HE⟩
     case measure => simp [intOf]; omega
   ·
    have heI : ¬ (s[k].toNat : Int) = 32 := Om;have e2 : ¬ s[k] = 32 := fun e => he (by rw [e]; rfl)
    rw [if_neg e2] at hbe;have HE := Lib.hid hbe;have hn3 : ¬ (n : Int) = 0 := Om;clear hbe hd HB;go_wp2
    go_round
    case rel => exact ⟨k + 1, n, Om, by go_num, rfl, Om, Om, HE⟩
    case measure => simp [intOf]; omega
  ·
   have HE : Hid (behL n0 s.data.toList = []) := by
    unfold Hid;rw [<- HB.out, List.drop_of_length_le (by rw [<- Lib.size_eq]; omega)]
    cases n <;> rfl
   go_wp2;go_ret;exact ⟨ret_str (by rw [HE.out]; rfl), rfl⟩
theorem pre45 (l : Str) : Lib.hasPrefix l [45] = (l.head? == some 45) := by
 unfold Lib.hasPrefix
 cases l with
 | nil => rfl
 | cons a r =>
  simp only [List.isPrefixOf, Bool.and_true, List.head?_cons];by_cases h : a = 45
  ·
   subst h; rfl
  ·
   have h2 : ¬ (45 : UInt8) = a := fun e => h e.symm
   rw [beq_eq_false_iff_ne.2 h2, beq_eq_false_iff_ne.2 (show ¬ some a = some (45 : UInt8) from fun e => h (Option.some.inj e))]
def intV (l : Str) : Int := (intR l).getD 0
def intK (l : Str) : Bool := (intR l).isSome
theorem trim45_yes {l : Str} (h : l.head? = some 45) : Lib.trimPrefix l [45] = l.tail := by
 unfold Lib.trimPrefix;rw [pre45, h]
 cases l <;> simp
theorem trim45_no {l : Str} (h : ¬ l.head? = some 45) : Lib.trimPrefix l [45] = l := by
 unfold Lib.trimPrefix;rw [pre45, if_neg]
 simpa using h
theorem integer_any (s : BA) (w : World) (hs : s.size <= 2000000) :
  Calls Tryz.prog 183 #[.string s] w fun e w' => e = .returned (.tuple #[.int .i64 (intV s.data.toList), .bool (intK s.data.toList)]) /\ w = w' := by
 have cc := fun W => Tryz.strings_CutPrefix s ⟨#[45]⟩ W
 have he : (⟨#[45]⟩ : BA).data.toList = [45] := rfl;simp only [he] at cc;by_cases hh : s.data.toList.head? = some 45
 ·
  rw [trim45_yes hh, pre45, hh] at cc;simp only [beq_self_eq_true] at cc;have hsz : (bs s.data.toList.tail).size <= 1099511627776 := by
   rw [Lib.size_eq, bs_data, List.length_tail, <- Lib.size_eq]; omega
  have cn := fun W => natural_any (bs s.data.toList.tail) W hsz
  have hV : intV s.data.toList = (if 0 < readL 12 s.data.toList.tail then -(readL 12 s.data.toList.tail) else 0) := by
   unfold intV intR; rw [if_pos hh]; split <;> rfl
  have hK : intK s.data.toList = decide (0 < readL 12 s.data.toList.tail) := by
   unfold intK intR; rw [if_pos hh]; split <;> simp_all
  have hN : natV (bs s.data.toList.tail) = if numOk 12 s.data.toList.tail then valD s.data.toList.tail else 0 := by unfold natV; rw [bs_data]
  unfold NatR at cn;rw [bs_data] at cn
  cases hk : numOk 12 s.data.toList.tail
  ·
   rw [readL_neg hk] at hV hK;rw [hk] at hN cn;rw [show natV (bs s.data.toList.tail) = 0 from hN] at cn;have HV := Lib.hid hV;have HK := Lib.hid hK;clear hV hK hN hk hh;unfold bs at cn;generalize s.data.toList.tail = tl at *;go_enter Tryz.func183, Tryz.ntmps183;go_wp2_with (first | (go_at_call 92; (with_reducible refine (cc _).mono ?_); rintro e w' ⟨rfl, rfl⟩) | (go_at_call 220; ((with_reducible refine (cn _).mono ?_); rintro e w' ⟨rfl, rfl⟩)))
   go_ret2;exact ⟨by rw [HV.out, HK.out]; rfl, rfl⟩
  ·
   have hbd : 0 <= valD s.data.toList.tail /\ valD s.data.toList.tail < 1000000000000 := by
    have h2 := hk;simp only [numOk, Bool.and_eq_true, decide_eq_true_eq] at h2;have h3 := valD_bd (s := bs s.data.toList.tail) (k := 12) (by unfold digsTo; rw [bs_data, List.take_of_length_le h2.2.1]; exact h2.2.2.2) (Nat.le_refl _);rw [bs_data, List.take_of_length_le h2.2.1] at h3;exact h3
   rw [readL_yes hk] at hV hK;rw [hk] at hN cn;rw [show natV (bs s.data.toList.tail) = valD s.data.toList.tail from hN] at cn;have HV := Lib.hid hV;have HK := Lib.hid hK;clear hV hK hN hk hh;unfold bs at cn;generalize valD s.data.toList.tail = v at *;generalize s.data.toList.tail = tl at *;by_cases hv : v = 0
   ·
    subst hv;go_enter Tryz.func183, Tryz.ntmps183;go_wp2_with (first | (go_at_call 92; (with_reducible refine (cc _).mono ?_); rintro e w' ⟨rfl, rfl⟩) | (go_at_call 220; ((with_reducible refine (cn _).mono ?_); rintro e w' ⟨rfl, rfl⟩)))
    go_ret2;exact ⟨by rw [HV.out, HK.out]; rfl, rfl⟩
   ·
    have e1 : IntKind.i64.wrap (-v) = -v := IntWalk.i64_in _ Om;have HV2 : Hid (intV s.data.toList = -v) := by unfold Hid; rw [HV.out, if_pos Om]
    have HK2 : Hid (intK s.data.toList = true) := by unfold Hid; rw [HK.out]; simp; omega
    clear HV HK;go_enter Tryz.func183, Tryz.ntmps183;go_wp2_with (first | (go_at_call 92; (with_reducible refine (cc _).mono ?_); rintro e w' ⟨rfl, rfl⟩) | (go_at_call 220; ((with_reducible refine (cn _).mono ?_); rintro e w' ⟨rfl, rfl⟩)))
    go_ret2;exact ⟨by rw [HV2.out, HK2.out]; rfl, rfl⟩
 ·
  have hpf : (s.data.toList.head? == some (45 : UInt8)) = false := by simpa using hh
  rw [trim45_no hh, pre45, hpf] at cc;have cn := fun W => natural_any (⟨s.data.toList.toArray⟩ : BA) W (by rw [Lib.mk_data]; omega)
  have hV : intV s.data.toList = (if numOk 12 s.data.toList then valD s.data.toList else 0) := by
   unfold intV intR; rw [if_neg hh]
   cases hk : numOk 12 s.data.toList
   ·
    rw [readL_neg hk]; rfl
   ·
    have := readL_nonneg 12 s.data.toList;rw [hk] at this;rw [if_pos (of_decide_eq_true this), readL_yes hk]; rfl
  have hK : intK s.data.toList = numOk 12 s.data.toList := by
   unfold intK intR; rw [if_neg hh, <- readL_nonneg]
   split <;> simp_all
  have HV := Lib.hid hV;have HK := Lib.hid hK;clear hV hK hh hpf;unfold NatR natV at cn;generalize hsl : s.data.toList = sl at *
  cases hk : numOk 12 sl
  ·
   rw [hk] at HV HK cn;clear hk;go_enter Tryz.func183, Tryz.ntmps183;go_wp2_with (first | (go_at_call 92; (with_reducible refine (cc _).mono ?_); rintro e w' ⟨rfl, rfl⟩) | (go_at_call 220; ((with_reducible refine (cn _).mono ?_); rintro e w' ⟨rfl, rfl⟩)))
   go_ret2;exact ⟨by rw [HV.out, HK.out]; rfl, rfl⟩
  ·
   rw [hk] at HV HK cn;clear hk;go_enter Tryz.func183, Tryz.ntmps183;go_wp2_with (first | (go_at_call 92; (with_reducible refine (cc _).mono ?_); rintro e w' ⟨rfl, rfl⟩) | (go_at_call 220; ((with_reducible refine (cn _).mono ?_); rintro e w' ⟨rfl, rfl⟩)))
   go_ret2;exact ⟨by rw [HV.out, HK.out]; rfl, rfl⟩
theorem mkNumber_any (s : BA) (w : World) (hs : s.size <= 2000000) :
  Calls Tryz.prog 150 #[.string s] w fun e w' => e = .returned (.int .i64 (mkNum s.data.toList)) /\ w = w' := by
 have rbd : ∀ l : Str, -1 <= readL 6 l /\ readL 6 l < 1000000000000 := fun l => by
  cases hk : numOk 6 l
  ·
   rw [readL_neg hk]; omega
  ·
   have h2 := hk;simp only [numOk, Bool.and_eq_true, decide_eq_true_eq] at h2;have h3 := valD_bd (s := bs l) (k := 12) (by unfold digsTo; rw [bs_data, List.take_of_length_le Om]; exact h2.2.2.2) (Nat.le_refl _);rw [bs_data, List.take_of_length_le Om] at h3;rw [readL_yes hk]; omega
 by_cases hc : s.data.toList.head? = some 45 /\ 1 < s.data.toList.length
 ·
  have h1 : 1 < s.size := by rw [Lib.size_eq]; exact hc.2
  have h0 : 0 < s.size := Om;have hb : s[0].toNat = 45 := by
   have := hc.1;rw [head_at h0] at this;injection this with this;rw [this]; rfl
  have h1I : (1 : Int) < s.size := Om;have hbI : (s[0].toNat : Int) = 45 := Om;have hx : (s.extract 1 s.size).data.toList = s.data.toList.tail := by
   rw [Lib.extract_data, List.take_of_length_le (by rw [List.length_drop, <- Lib.size_eq]; exact Nat.le_refl _), List.drop_one]
  have cr := fun W => l1Read_any (s.extract 1 s.size) W (by rw [Lib.size_eq, hx, List.length_tail, <- Lib.size_eq]; omega)
  rw [hx] at cr;have HV : Hid (mkNum s.data.toList = if 0 <= readL 6 s.data.toList.tail then -(readL 6 s.data.toList.tail) else 9999) := by unfold Hid mkNum; rw [if_pos hc]
  have hr := rbd s.data.toList.tail;clear hc hx rbd;generalize readL 6 s.data.toList.tail = v at *;have e1 : IntKind.i64.wrap (-1 * v) = -v := by rw [IntWalk.i64_in _ Om]; omega
  have e2 : IntKind.i64.wrap (-v) = -v := IntWalk.i64_in _ Om;by_cases hv : 0 <= v
  ·
   have HV2 : Hid (mkNum s.data.toList = -v) := by unfold Hid; rw [HV.out, if_pos hv]
   go_enter Tryz.func150, Tryz.ntmps150;go_wp2_with ((go_at_call 100; (with_reducible refine ep (cr _) ?_)))
   go_ret;exact ⟨ret_int (by first | (rw [HV2.out]; done) | (rw [HV2.out]; omega)), rfl⟩
  ·
   have HV2 : Hid (mkNum s.data.toList = 9999) := by unfold Hid; rw [HV.out, if_neg hv]
   go_enter Tryz.func150, Tryz.ntmps150;go_wp2_with ((go_at_call 100; (with_reducible refine ep (cr _) ?_)))
   go_ret;exact ⟨ret_int (by rw [HV2.out]), rfl⟩
 ·
  have cr := fun W => l1Read_any s W Om
  have HV : Hid (mkNum s.data.toList = if 0 <= readL 6 s.data.toList then readL 6 s.data.toList else 9999) := by unfold Hid mkNum; rw [if_neg hc]
  have hr := rbd s.data.toList;have hcase : (¬ (1 : Int) < s.size) ∨ (∃ h0 : 0 < s.size, (1 : Int) < s.size /\ ¬ (s[0].toNat : Int) = 45) := by
   by_cases h1 : 1 < s.size
   ·
    refine .inr ⟨Om, Om, fun e => hc ⟨?_, by rw [<- Lib.size_eq]; exact h1⟩⟩;rw [head_at Om]
    congr 1
    exact UInt8.toNat_inj.1 (by have : (45 : UInt8).toNat = 45 := rfl; omega)
   ·
    exact .inl Om
  clear hc rbd;generalize readL 6 s.data.toList = v at *;have e2 : IntKind.i64.wrap v = v := IntWalk.i64_in _ Om;have e3 : IntKind.i64.wrap (1 * v) = v := by rw [Int.one_mul]; exact e2
  rcases hcase with h1I | ⟨h0, h1I, hbI⟩
  all_goals
   by_cases hv : 0 <= v
   ·
    have HV2 : Hid (mkNum s.data.toList = v) := by unfold Hid; rw [HV.out, if_pos hv]
    go_enter Tryz.func150, Tryz.ntmps150;go_wp2_with ((go_at_call 100; (with_reducible refine ep (cr _) ?_)))
    go_ret;exact ⟨ret_int (by first | (rw [HV2.out]; done) | (rw [HV2.out]; omega)), rfl⟩
   ·
    have HV2 : Hid (mkNum s.data.toList = 9999) := by unfold Hid; rw [HV.out, if_neg hv]
    go_enter Tryz.func150, Tryz.ntmps150;go_wp2_with ((go_at_call 100; (with_reducible refine ep (cr _) ?_)))
    go_ret;exact ⟨ret_int (by rw [HV2.out]), rfl⟩
def intsO (ws : List BA) : List Int := (oAll intR (ws.map (·.data.toList))).getD []
def intsK (ws : List BA) : Bool := (oAll intR (ws.map (·.data.toList))).isSome
def RetIK (w : World) (l : List Int) (ok : Bool) (e : Ending) (w' : World) : Prop := ∃ A n c x, e = .returned (.tuple #[.slice A n c, .bool ok]) /\ w' = ext w x /\ OwI w.heap.size (ext w x) A n c l
theorem RetIK.mk_ {base : Nat} {A : OA} {n c : Nat} {l' : List Int} {ok ok' : Bool} (ho : OwI base W A n c l') (hl : l' = l) (hk : ok' = ok) (hbase : w.heap.size <= base) (hb : Below w.heap.size w W) : RetIK w l ok (.returned (.tuple #[.slice A n c, .bool ok'])) W := by
 subst hl hk;obtain ⟨x, rfl⟩ := ext_ex hb;exact ⟨A, n, c, x, rfl, rfl, ho.mono hbase⟩
theorem intR_some {l : Str} (h : intK l = true) : intR l = some (intV l) := by
 unfold intK at h; unfold intV
 cases hr : intR l with
 | none => rw [hr] at h; cases h
 | some v => rfl
theorem intR_none {l : Str} (h : intK l = false) : intR l = none := by
 unfold intK at h
 cases hr : intR l with
 | none => rfl
 | some v => rw [hr] at h; cases h
theorem take_map_succ (ws : List BA) (k : Nat) (h : k < ws.length) : (ws.take (k + 1)).map (·.data.toList) = (ws.take k).map (·.data.toList) ++ [(ws[k]?.getD ByteArray.empty).data.toList] := by
 rw [take_succ_getD ByteArray.empty ws k h, List.map_append]; rfl
theorem integersIn_any (w : World) (A : OA) (n c : Nat) (ws : List BA) (ha : RdT w A n ws) (hn : n <= 2000000) (hsz : ∀ s ∈ ws, s.size <= 2000000) :
  Calls Tryz.prog 130 #[.slice A n c] w (RetIK w (intsO ws) (intsK ws)) := by
 have Hl := Lib.hid ha.len;go_enter Tryz.func130, Tryz.ntmps130;go_wp2
 go_loopw [4, 6, 7, 8, 12] (fun t _ _ _ i wr => ∃ (k : Nat) (l : List Int) (D : OA) (dc : Nat) (y : World), k <= n /\ i = .int .i64 k /\ t = .slice D k dc /\ wr = ext w y /\ OwI w.heap.size (ext w y) D k dc l /\ Hid (oAll intR ((ws.take k).map (·.data.toList)) = some l)) (fun _ _ _ _ i _ => n - (intOf i).toNat)
 case atStart =>
  obtain ⟨y, hy⟩ := ext_ex (bAlloc (Below.refl w.heap.size w) (.cells #[] 3));have o0 := OwI.lit_ (Below.refl w.heap.size w) [] (by simp [maxLen]) #[] rfl;rw [hy] at o0;exact ⟨0, [], _, 0, y, Om, rfl, rfl, hy, by simpa using o0, rfl⟩
 case round =>
  obtain ⟨k, l, D, dc, y, hk, rfl, rfl, rfl, ho, HO⟩ := hrel;by_cases hlt : k < n
  ·
   obtain ⟨b, off, rfl, hb, hc⟩ := ha.open_ Om;have hck := hc k hlt;have hlk : k < ws.length := by rw [Hl.out]; exact hlt
   have hs := hsz _ (getD_mem ByteArray.empty ws k hlk);have hmem : (ws[k]?.getD ByteArray.empty).data.toList ∈ ws.map (·.data.toList) := List.mem_map_of_mem (getD_mem ByteArray.empty ws k hlk);have HT := Lib.hid (take_map_succ ws k hlk);have HM := Lib.hid hmem;have hkb : k <= 1099511627776 := Om;clear hc hmem hsz;generalize ws[k]?.getD ByteArray.empty = s at *;have ci := fun W => integer_any s W hs
   cases hK : intK s.data.toList
   ·
    have HN : Hid (oAll intR (ws.map (·.data.toList)) = none) := oAll_none (intR_none hK) HM.out;have HE1 : Hid (intsO ws = []) := by unfold Hid intsO; rw [HN.out]; rfl
    have HE2 : Hid (intsK ws = false) := by unfold Hid intsK; rw [HN.out]; rfl
    rw [hK] at ci;generalize intV s.data.toList = v at *;clear hK HT HM HO HN;go_wp2_with ((go_at_call 183; (with_reducible refine ep (ci _) ?_)))
    go_ret2;exact RetIK.mk_ OwI.nil_ (by rw [HE1.out]) (by rw [HE2.out]) (Nat.le_refl _) bL
   ·
    have HN : Hid (oAll intR ((ws.take (k + 1)).map (·.data.toList)) = some (l ++ [intV s.data.toList])) := by unfold Hid; rw [HT.out]; exact oAll_snoc (intR_some hK) HO.out
    rw [hK] at ci;generalize intV s.data.toList = v at *;clear hK HT HM HO;go_wp2_with (first | (go_at_call 183; (with_reducible refine ep (ci _) ?_)) | (at_builtin; (refine wpl_push_int w _ _ _ ?_ rfl _ _ rfl D k dc _ rfl ho ?_ ?_ rfl hkb ?_); (focus (first | rfl | (simp; done))); exact bL; exact bL; intro D' c' y' ho' hg hd))
    go_roundw
    case rel => exact ⟨k + 1, _, D', c', y', Om, by go_num, rfl, rfl, ho', HN⟩
    case measure => simp [intOf]; omega
  ·
   obtain rfl : k = n := Om;have HN : Hid (oAll intR (ws.map (·.data.toList)) = some l) := by unfold Hid; have := HO.out; rwa [List.take_of_length_le (by rw [Hl.out]; exact Nat.le_refl _)] at this
   go_wp2;go_ret2;exact RetIK.mk_ ho (by unfold intsO; rw [HN.out]; rfl) (by unfold intsK; rw [HN.out]; rfl) (Nat.le_refl _) bL
def laid6 : List (String × DataW Unit) := laid3 ++ [("unicode/utf8.acceptRanges", Rows.laid_unicode_utf8_acceptRanges), ("loop.example/g00912/impl.markSigns", Rows.laid_loop_example_g00912_impl_markSigns), ("unicode/utf8.first", Rows.laid_unicode_utf8_first)]
theorem sgn_of_head {rest : List (String × DataW Unit)} (h4 : laidMet Tryz.prog (("loop.example/g00912/impl.markSigns", Rows.laid_loop_example_g00912_impl_markSigns) :: rest) W) : Sgn W := by
 obtain ⟨ps, ⟨g', t', cs, fuel, p, q, hg', ht', hvar, hd, _, _⟩, _⟩ := h4;obtain rfl := Option.some.inj (gSgn.symm.trans hg');obtain rfl := Option.some.inj (gSgnType.symm.trans ht');obtain ⟨zs, hcs, hx, _, _⟩ := trod_strs Tryz.underlying168 Tryz.underlying9 cellsStr cellsSgn hd;refine sgn_of_var hvar ?_;rw [hcs];have hz : zs.map (fun z => (DataW.lit (.string z.data.toList) : DataW Unit)) = [.lit (.string []), .lit (.string [60]), .lit (.string [101]), .lit (.string [42])] := by
  have := congrArg Prod.fst hx;simp only [Rows.laid_loop_example_g00912_impl_markSigns, DataW.agg.injEq] at this;exact this.symm
 match zs, hz with
 | [a, b, c, d], hz =>
  simp only [List.map_cons, List.map_nil, List.cons.injEq, DataW.lit.injEq, Lit.string.injEq, and_true] at hz;obtain ⟨h0, h1, h2, h3⟩ := hz;rw [bytes_of_list h0, bytes_of_list h1, bytes_of_list h2, bytes_of_list h3]
  rfl
theorem sgn_of_laid6 (h : laidMetH Tryz.prog laid6 W) : Sgn W := sgn_of_head (laidVars_tail (laidVars_tail (laidVars_tail (laidVars_tail (show laidMet Tryz.prog laid6 W from h)))))
theorem tab_of_laid6 (h : laidMetH Tryz.prog laid6 W) : Tab W :=
 Lib.tabIs_of_head (rest := [("unicode/utf8.acceptRanges", Rows.laid_unicode_utf8_acceptRanges), ("loop.example/g00912/impl.markSigns", Rows.laid_loop_example_g00912_impl_markSigns), ("unicode/utf8.first", Rows.laid_unicode_utf8_first)]) gPow gPowType Tryz.underlying214 Tryz.underlying68 cellsU64 cellsPow (laidVars_tail (laidVars_tail (show laidMet Tryz.prog laid6 W from h)))
theorem mxl_of (h : W.ShapedOpen Tryz.prog) : Mxl W :=
 cell_of_shapedOpen_int h (of_decide_eq_true (by kernel_rfl)) (show _ = some (#[.int .i64 0], 3) from by kernel_rfl) rfl (by kernel_rfl) (by kernel_rfl) Tryz.underlying3
def cellsOfD : DataW Unit -> List Value
 | .agg l => l.flatMap fun d => match d with
  | .lit (.int k n) => [Value.int k n]
  | .agg l2 => l2.map fun d2 => match d2 with
   | .lit (.int k n) => Value.int k n
   | _ => undef
  | _ => [undef]
 | _ => []
noncomputable def laidWorld6 (os : Os) : World :=
 { laidWorld4 os with heap := ((laidWorld4 os).heap.modify 3 (fun | .cells _ t frozen => .cells (cellsOfD Rows.laid_unicode_utf8_acceptRanges).toArray t frozen | o => o)).modify 2 (fun | .cells _ t frozen => .cells (cellsOfD Rows.laid_unicode_utf8_first).toArray t frozen | o => o) }
end Go.Proofs.YtlfhhkgleapamaaGreatDoor
