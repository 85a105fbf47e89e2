/- Forests: many rows of a call's own at once, no two of them in one block; items and tables of rows as forests. Conditions: none. -/
import Derived.Test.YtmeaklaagglmeaaGreatDoorXLawIt
import Derived.Test.YtmeaklaagglmeaaGreatDoorXDraws
import Derived.Test.YtmeaklaagglmeaaGreatDoorXLawIP
set_option linter.unusedVariables false
set_option linter.unusedSimpArgs false
set_option maxRecDepth 100000
namespace Go.Proofs.YtmeaklaagglmeaaGreatDoor
open Go.RowKit
structure Rw where
 e : Nat
 s : Nat
 A : Option Addr
 n : Nat
 c : Nat
 xs : List Value
def Rw.own (r : Rw) (b : Nat) (w : World) : Prop := Ow r.e r.s b w r.A r.n r.c r.xs
def rowN : Rw := ⟨0, 1, none, 0, 0, []⟩
def rowT (A : Option Addr) (n c : Nat) (l : List ByteArray) : Rw := ⟨9, 1, A, n, c, l.map Value.string⟩
def rowI (A : Option Addr) (n c : Nat) (l : List Int) : Rw := ⟨3, 1, A, n, c, l.map (Value.int .i64)⟩
abbrev Fam := Nat × Nat → Rw
def famN : Fam := fun _ => rowN
def upd (R : Fam) (j : Nat × Nat) (r : Rw) : Fam := fun i => if i = j then r else R i
theorem upd_same (R : Fam) (j : Nat × Nat) (r : Rw) : upd R j r j = r := by simp [upd]
theorem upd_ne (R : Fam) {i j : Nat × Nat} (r : Rw) (h : i ≠ j) : upd R j r i = R i := by simp [upd, h]
def Fo (b hi : Nat) (w : World) (R : Fam) : Prop :=
 (∀ j, (R j).own b w) ∧ (∀ i j, i ≠ j → blkOf (R i).A = none ∨ blkOf (R i).A ≠ blkOf (R j).A) ∧ ∀ j z, blkOf (R j).A = some z → z < hi
theorem Fo.nil_ {b hi : Nat} {w : World} : Fo b hi w famN := ⟨fun _ => Ow.nil_, fun _ _ _ => .inl rfl, fun _ z hz => by cases hz⟩
section
variable {b hi hi' : Nat} {w w' : World} {R : Fam} {j : Nat × Nat} {r : Rw}
theorem Fo.below (h : Fo b hi w R) (hb : Below w.heap.size w w') : Fo b hi w' R := ⟨fun j => (h.1 j).below hb, h.2.1, h.2.2⟩
theorem Fo.mono {b' : Nat} (h : Fo b hi w R) (hb : b' ≤ b) (hh : hi ≤ hi') : Fo b' hi' w R := ⟨fun j => (h.1 j).mono hb, h.2.1, fun j z hz => by have := h.2.2 j z hz; omega⟩
theorem Fo.put (h : Fo b hi w R) (hg : w.grownBy w' (blkOf (R j).A)) (ho : r.own b w') (hd : blkOf r.A = blkOf (R j).A ∨ blkOf r.A = none ∨ ∃ g, blkOf r.A = some g ∧ hi ≤ g) (hh : hi ≤ hi') (hz : ∀ z, blkOf r.A = some z → z < hi') : Fo b hi' w' (upd R j r) := by
 have hfree : ∀ i, i ≠ j → blkOf r.A = none ∨ blkOf r.A ≠ blkOf (R i).A := fun i hi => by
  rcases hd with hd | hd | ⟨g, hd, hg⟩
  ·
   rw [hd]; exact h.2.1 j i (fun e => hi e.symm)
  ·
   exact .inl hd
  ·
   refine .inr fun e => ?_
   rw [hd] at e
   have := h.2.2 i g e.symm
   omega
 refine ⟨fun i => ?_, fun i k hik => ?_, fun i z hi => ?_⟩
 ·
  by_cases e : i = j
  ·
   subst e; rw [upd_same]; exact ho
  ·
   rw [upd_ne R r e]; exact (h.1 i).kept hg (h.2.1 i j e)
 ·
  by_cases e : i = j
  ·
   subst e
   rw [upd_same, upd_ne R r (fun e => hik e.symm)]
   exact hfree k (fun e => hik e.symm)
  ·
   rw [upd_ne R r e]
   by_cases e2 : k = j
   ·
    subst e2
    rw [upd_same]
    rcases hfree i e with hn | hn
    ·
     rw [hn]
     cases blkOf (R i).A with
     | none => exact .inl rfl
     | some z => exact .inr (by simp)
    ·
     exact .inr fun e3 => hn e3.symm
   ·
    rw [upd_ne R r e2]; exact h.2.1 i k hik
 ·
  by_cases e : i = j
  ·
   subst e; rw [upd_same] at hi; exact hz z hi
  ·
   rw [upd_ne R r e] at hi; have := h.2.2 i z hi; omega
theorem Fo.add (h : Fo b hi w R) (hn : R j = rowN) (hb : Below w.heap.size w w') (hw : hi ≤ w.heap.size) {b' : Nat} (hb' : hi ≤ b') (hbb : b ≤ b') (ho : r.own b' w') (hh : w'.heap.size ≤ hi') : Fo b hi' w' (upd R j r) := by
 refine h.put (by rw [hn]; exact grownBy_of_below hb) (Ow.mono ho hbb) ?_ (by have := hb.size; omega) (fun z hz => ?_)
 ·
  cases hr : blkOf r.A with
  | none => exact .inr (.inl rfl)
  | some z => exact .inr (.inr ⟨z, rfl, Nat.le_trans hb' (Ow.blk ho hr).1⟩)
 ·
  have := (Ow.blk ho hz).2; omega
theorem Fo.merge {mid : Nat} {R2 : Fam} (p : Nat × Nat → Bool) (h : Fo b mid w R) (h2 : Fo mid hi w R2) (hb : b ≤ mid) (hm : mid ≤ hi) : Fo b hi w (fun i => if p i then R i else R2 i) := by
 refine ⟨fun j => ?_, fun i j hij => ?_, fun j z hz => ?_⟩
 ·
  by_cases e : p j = true
  ·
   simp only [if_pos e]; exact h.1 j
  ·
   simp only [if_neg e]; exact (h2.1 j).mono hb
 ·
  by_cases e : p i = true
  ·
   by_cases e2 : p j = true
   ·
    simp only [if_pos e, if_pos e2]; exact h.2.1 i j hij
   ·
    simp only [if_pos e, if_neg e2]
    cases hz : blkOf (R i).A with
    | none => exact .inl rfl
    | some z => exact .inr fun e3 => by have := h.2.2 i z hz; have := (Ow.blk (h2.1 j) e3.symm).1; omega
  ·
   by_cases e2 : p j = true
   ·
    simp only [if_neg e, if_pos e2]
    cases hz : blkOf (R2 i).A with
    | none => exact .inl rfl
    | some z => exact .inr fun e3 => by have := h.2.2 j z e3.symm; have := (Ow.blk (h2.1 i) hz).1; omega
   ·
    simp only [if_neg e, if_neg e2]; exact h2.2.1 i j hij
 ·
  by_cases e : p j = true
  ·
   simp only [if_pos e] at hz; have := h.2.2 j z hz; omega
  ·
   simp only [if_neg e] at hz; exact h2.2.2 j z hz
end
/-! Items -/
def ItF (R : Fam) (I : Option Addr) (n c : Nat) (its : List It) : Prop :=
 its.length = n ∧ (∃ C : List C3, C.length = n ∧ R (0, 0) = ⟨70, 3, I, n, c, cells3 C⟩ ∧ ∀ j, j < n → ∃ NA nn nc MA mn mc, C[j]?.getD nil3 = (.slice NA nn nc, .slice MA mn mc, .bool (its[j]?.getD zIt).2.2) ∧ R (3, j) = rowT NA nn nc (its[j]?.getD zIt).1 ∧ R (4, j) = rowI MA mn mc (its[j]?.getD zIt).2.1) ∧
  ∀ j, n ≤ j → R (3, j) = rowN ∧ R (4, j) = rowN
theorem cells3_snoc (C : List C3) (x : C3) : cells3 (C ++ [x]) = cells3 C ++ [x.1, x.2.1, x.2.2] := by
 induction C with
 | nil => rfl
 | cons a r ih => rw [List.cons_append, cells3_cons, cells3_cons, ih]; rfl
theorem ItF.push {R : Fam} {I : Option Addr} {n c : Nat} {its : List It} (h : ItF R I n c its) (it : It) (NA : Option Addr) (nn nc : Nat) (MA : Option Addr) (mn mc : Nat) :
  ∃ xs, R (0, 0) = ⟨70, 3, I, n, c, xs⟩ ∧ ∀ (I' : Option Addr) (c' : Nat), ItF (upd (upd (upd R (3, n) (rowT NA nn nc it.1)) (4, n) (rowI MA mn mc it.2.1)) (0, 0) ⟨70, 3, I', n + 1, c', xs ++ [.slice NA nn nc, .slice MA mn mc, .bool it.2.2]⟩) I' (n + 1) c' (its ++ [it]) := by
 obtain ⟨hl, ⟨C, hC, h0, hj⟩, hz⟩ := h
 refine ⟨_, h0, fun I' c' => ⟨by simp [hl], ⟨C ++ [(.slice NA nn nc, .slice MA mn mc, .bool it.2.2)], by simp [hC], by rw [upd_same, cells3_snoc], fun j hlt => ?_⟩, fun j hle => ?_⟩⟩
 ·
  by_cases e : j = n
  ·
   subst e
   have e1 : (its ++ [it])[j]?.getD zIt = it := by rw [← hl]; simp
   have e2 : (C ++ [((.slice NA nn nc, .slice MA mn mc, .bool it.2.2) : C3)])[j]?.getD nil3 = (.slice NA nn nc, .slice MA mn mc, .bool it.2.2) := by rw [← hC]; simp
   rw [e1, e2]
   exact ⟨NA, nn, nc, MA, mn, mc, rfl, by simp [upd], by simp [upd]⟩
  ·
   have e1 : (its ++ [it])[j]?.getD zIt = its[j]?.getD zIt := by rw [List.getElem?_append_left (by omega)]
   have e2 : (C ++ [((.slice NA nn nc, .slice MA mn mc, .bool it.2.2) : C3)])[j]?.getD nil3 = C[j]?.getD nil3 := by rw [List.getElem?_append_left (by omega)]
   rw [e1, e2]
   obtain ⟨NA', nn', nc', MA', mn', mc', q1, q2, q3⟩ := hj j (by omega)
   exact ⟨NA', nn', nc', MA', mn', mc', q1, by simp [upd, e, q2], by simp [upd, e, q3]⟩
 ·
  obtain ⟨q1, q2⟩ := hz j (by omega)
  have e : j ≠ n := by omega
  exact ⟨by simp [upd, e, q1], by simp [upd, e, q2]⟩
theorem ItF.rd {b hi : Nat} {w : World} {R : Fam} {I : Option Addr} {n c : Nat} {its : List It} (h : ItF R I n c its) (hF : Fo b hi w R) : RdIt w I n its := by
 obtain ⟨hl, ⟨C, hC, h0, hj⟩, hz⟩ := h
 refine ⟨hl, fun hn => ?_⟩
 have ho := hF.1 (0, 0)
 rw [h0] at ho
 have ho : Ow 70 3 b w I n c (cells3 C) := ho
 obtain ⟨g, rfl, hb, hg⟩ := ho.form_ hn
 refine ⟨g, 0, rfl, hg, fun j hlt => ?_⟩
 obtain ⟨NA, nn, nc, MA, mn, mc, e, q1, q2⟩ := hj j hlt
 obtain ⟨g0, g1, g2⟩ := cells3_get C j (by omega)
 rw [e] at g0 g1 g2
 have o1 := hF.1 (3, j)
 rw [q1] at o1
 have o1 : OwT b w NA nn nc (its[j]?.getD zIt).1 := o1
 have o2 := hF.1 (4, j)
 rw [q2] at o2
 have o2 : OwI b w MA mn mc (its[j]?.getD zIt).2.1 := o2
 refine ⟨NA, nn, nc, MA, mn, mc, ?_, ?_, ?_, o1.rd, o2.rd, o1.cap_, Ow.cap_ o2⟩
 ·
  rw [Nat.zero_add, Ow.cell_ ho _ (by omega)]; exact g0
 ·
  rw [Nat.zero_add, Ow.cell_ ho _ (by omega)]; exact g1
 ·
  rw [Nat.zero_add, Ow.cell_ ho _ (by omega)]; exact g2
theorem ItF.cap {b hi : Nat} {w : World} {R : Fam} {I : Option Addr} {n c : Nat} {its : List It} (h : ItF R I n c its) (hF : Fo b hi w R) : n ≤ c := by
 obtain ⟨hl, ⟨C, hC, h0, hj⟩, hz⟩ := h
 have ho := hF.1 (0, 0)
 rw [h0] at ho
 exact (Ow.cap_ ho).1
/-! Tables of rows -/
def TbF (t k : Nat) (R : Fam) (A : Option Addr) (n c : Nat) (ll : List (List Int)) : Prop :=
 ll.length = n ∧ (∃ (B : Nat → Option Addr) (m d : Nat → Nat), R (t, 0) = ⟨23, 1, A, n, c, (List.range n).map fun j => .slice (B j) (m j) (d j)⟩ ∧ ∀ j, j < n → R (k, j) = rowI (B j) (m j) (d j) (ll[j]?.getD [])) ∧ ∀ j, n ≤ j → R (k, j) = rowN
theorem TbF.push {t k : Nat} (htk : t ≠ k) {R : Fam} {A : Option Addr} {n c : Nat} {ll : List (List Int)} (h : TbF t k R A n c ll) (l : List Int) (B0 : Option Addr) (m0 d0 : Nat) :
  ∃ xs, R (t, 0) = ⟨23, 1, A, n, c, xs⟩ ∧ ∀ (A' : Option Addr) (c' : Nat), TbF t k (upd (upd R (k, n) (rowI B0 m0 d0 l)) (t, 0) ⟨23, 1, A', n + 1, c', xs ++ [.slice B0 m0 d0]⟩) A' (n + 1) c' (ll ++ [l]) := by
 obtain ⟨hl, ⟨B, m, d, h0, hj⟩, hz⟩ := h
 have hkt : k ≠ t := fun e => htk e.symm
 refine ⟨_, h0, fun A' c' => ⟨by simp [hl], ⟨fun j => if j = n then B0 else B j, fun j => if j = n then m0 else m j, fun j => if j = n then d0 else d j, ?_, fun j hlt => ?_⟩, fun j hle => ?_⟩⟩
 ·
  rw [upd_same, List.range_succ, List.map_append]
  congr 2
  ·
   refine List.map_congr_left fun j hj => ?_
   have : j ≠ n := by simp at hj; omega
   simp [this]
  ·
   simp
 ·
  by_cases e : j = n
  ·
   subst e
   have e1 : (ll ++ [l])[j]?.getD [] = l := by rw [← hl]; simp
   rw [e1]
   simp [upd, hkt]
  ·
   have e1 : (ll ++ [l])[j]?.getD [] = ll[j]?.getD [] := by rw [List.getElem?_append_left (by omega)]
   rw [e1]
   simp [upd, hkt, e, hj j (by omega)]
 ·
  have e : j ≠ n := by omega
  simp [upd, hkt, e, hz j (by omega)]
theorem TbF.rd {t k b hi : Nat} {w : World} {R : Fam} {A : Option Addr} {n c : Nat} {ll : List (List Int)} (h : TbF t k R A n c ll) (hF : Fo b hi w R) : RdM w A n ll := by
 obtain ⟨hl, ⟨B, m, d, h0, hj⟩, hz⟩ := h
 refine ⟨hl, fun hn => ?_⟩
 have ho := hF.1 (t, 0)
 rw [h0] at ho
 have ho : Ow 23 1 b w A n c ((List.range n).map fun j => .slice (B j) (m j) (d j)) := ho
 obtain ⟨g, rfl, hb, hg⟩ := ho.form_ hn
 refine ⟨g, 0, rfl, hg, fun j hlt => ?_⟩
 have o1 := hF.1 (k, j)
 rw [hj j hlt] at o1
 have o1 : OwI b w (B j) (m j) (d j) (ll[j]?.getD []) := o1
 refine ⟨B j, m j, d j, ?_, o1.rd, (Ow.cap_ o1).1, (Ow.cap_ o1).2⟩
 rw [Nat.zero_add, Ow.cell_ ho _ (by omega)]
 simp [hlt]
theorem TbF.cap {t k b hi : Nat} {w : World} {R : Fam} {A : Option Addr} {n c : Nat} {ll : List (List Int)} (h : TbF t k R A n c ll) (hF : Fo b hi w R) : n ≤ c := by
 obtain ⟨hl, ⟨B, m, d, h0, hj⟩, hz⟩ := h
 have ho := hF.1 (t, 0)
 rw [h0] at ho
 exact (Ow.cap_ ho).1
theorem ItF.of {R R' : Fam} {I : Option Addr} {n c : Nat} {its : List It} (h : ItF R I n c its) (h0 : R' (0, 0) = R (0, 0)) (h1 : ∀ j, R' (3, j) = R (3, j) ∧ R' (4, j) = R (4, j)) : ItF R' I n c its := by
 obtain ⟨hl, ⟨C, hC, h2, hj⟩, hz⟩ := h
 exact ⟨hl, ⟨C, hC, h0.trans h2, fun j hlt => by obtain ⟨NA, nn, nc, MA, mn, mc, q1, q2, q3⟩ := hj j hlt; exact ⟨NA, nn, nc, MA, mn, mc, q1, (h1 j).1.trans q2, (h1 j).2.trans q3⟩⟩, fun j hle => ⟨(h1 j).1.trans (hz j hle).1, (h1 j).2.trans (hz j hle).2⟩⟩
theorem TbF.of {t k : Nat} {R R' : Fam} {A : Option Addr} {n c : Nat} {ll : List (List Int)} (h : TbF t k R A n c ll) (h0 : R' (t, 0) = R (t, 0)) (h1 : ∀ j, R' (k, j) = R (k, j)) : TbF t k R' A n c ll := by
 obtain ⟨hl, ⟨B, m, d, h2, hj⟩, hz⟩ := h
 exact ⟨hl, ⟨B, m, d, h0.trans h2, fun j hlt => (h1 j).trans (hj j hlt)⟩, fun j hle => (h1 j).trans (hz j hle)⟩
end Go.Proofs.YtmeaklaagglmeaaGreatDoor
namespace Go.Proofs.YtmeaklaagglmeaaGreatDoor
open Go.RowKit
theorem set_same {α : Type} {l : List α} {i : Nat} {v : α} (h : l[i]? = some v) : l.set i v = l := by
 apply List.ext_getElem?
 intro j
 by_cases e : i = j
 ·
  subst e
  rw [List.getElem?_set_self (List.getElem?_eq_some_iff.1 h).1, h]
 ·
  rw [List.getElem?_set_ne e]
theorem cells3_set2 (C : List C3) (k : Nat) (hk : k < C.length) (v0 v1 v2 v : Value) (h : C[k]?.getD nil3 = (v0, v1, v2)) : (cells3 C).set (k * 3 + 2) v = cells3 (C.set k (v0, v1, v)) := by
 obtain ⟨g0, g1, g2⟩ := cells3_get C k hk
 rw [h] at g0 g1
 rw [← cells3_set C k (v0, v1, v) hk]
 simp only
 rw [set_same g0, set_same g1]
theorem tab_cells {g n c b hi k : Nat} {C : List C3} {W : World} {R : Fam} {v0 v1 v2 : Value} (hF : Fo b hi W R) (h0 : R (0, 0) = ⟨70, 3, some ⟨g, 0, none⟩, n, c, cells3 C⟩) (hC : C.length = n) (hk : k < n) (hx : C[k]?.getD nil3 = (v0, v1, v2)) :
  (W.cell? ⟨g, k * 3, none⟩ = some v0 ∧ W.cell? ⟨g, k * 3 + 1, none⟩ = some v1 ∧ W.cell? ⟨g, k * 3 + 2, none⟩ = some v2) ∧ W.frozen? ⟨g, k * 3 + 2, none⟩ = false := by
 have ho := hF.1 (0, 0)
 rw [h0] at ho
 have ho : Ow 70 3 b W (some ⟨g, 0, none⟩) n c (cells3 C) := ho
 obtain ⟨g0, g1, g2⟩ := cells3_get C k (by omega)
 rw [hx] at g0 g1 g2
 exact ⟨⟨(Ow.cell_ ho _ (by omega)).trans g0, (Ow.cell_ ho _ (by omega)).trans g1, (Ow.cell_ ho _ (by omega)).trans g2⟩, Ow.frozen_ ho _⟩
section
variable {b hi : Nat} {w w' : World} {R : Fam} {j : Nat × Nat} {r : Rw}
theorem Fo.wrote (h : Fo b hi w R) (hg : w.grownBy w' (blkOf (R j).A)) (ho : r.own b w') (hA : r.A = (R j).A) : Fo b hi w' (upd R j r) ∧ Mid b hi w w' :=
 ⟨h.put hg ho (.inl (by rw [hA])) (Nat.le_refl _) (fun z hz => h.2.2 j z (by rw [← hA]; exact hz)), Mid.of_grown hg fun k hk => ⟨(Ow.blk (h.1 j) hk).1, h.2.2 j k hk⟩⟩
theorem Fo.wroteT {A : Option Addr} {n c : Nat} {l l' : List ByteArray} (h : Fo b hi w R) (e : R j = rowT A n c l) (ho : OwT b w' A n c l') (hg : w.grownBy w' (blkOf A)) : Fo b hi w' (upd R j (rowT A n c l')) ∧ Mid b hi w w' := h.wrote (by rw [e]; exact hg) ho (by rw [e]; rfl)
theorem Fo.wroteI {A : Option Addr} {n c : Nat} {l l' : List Int} (h : Fo b hi w R) (e : R j = rowI A n c l) (ho : OwI b w' A n c l') (hg : w.grownBy w' (blkOf A)) : Fo b hi w' (upd R j (rowI A n c l')) ∧ Mid b hi w w' := h.wrote (by rw [e]; exact hg) ho (by rw [e]; rfl)
theorem Fo.ownT {A : Option Addr} {n c : Nat} {l : List ByteArray} (h : Fo b hi w R) (e : R j = rowT A n c l) : OwT b w A n c l := by have := h.1 j; rw [e] at this; exact this
theorem Fo.ownI {A : Option Addr} {n c : Nat} {l : List Int} (h : Fo b hi w R) (e : R j = rowI A n c l) : OwI b w A n c l := by have := h.1 j; rw [e] at this; exact this
end
theorem ItF.at_ {R : Fam} {I : Option Addr} {n c b hi k : Nat} {w : World} {its : List It} (h : ItF R I n c its) (hF : Fo b hi w R) (hk : k < n) :
  ∃ g C NA nn nc MA mn mc, I = some ⟨g, 0, none⟩ ∧ b ≤ g ∧ g < w.heap.size ∧ C.length = n ∧ R (0, 0) = ⟨70, 3, some ⟨g, 0, none⟩, n, c, cells3 C⟩ ∧ C[k]?.getD nil3 = (.slice NA nn nc, .slice MA mn mc, .bool (its[k]?.getD zIt).2.2) ∧ R (3, k) = rowT NA nn nc (its[k]?.getD zIt).1 ∧ R (4, k) = rowI MA mn mc (its[k]?.getD zIt).2.1 ∧
   ∀ (N' : List ByteArray) (M' : List Int) (lt : Bool), ItF (upd (upd (upd R (3, k) (rowT NA nn nc N')) (4, k) (rowI MA mn mc M')) (0, 0) ⟨70, 3, some ⟨g, 0, none⟩, n, c, (cells3 C).set (k * 3 + 2) (.bool lt)⟩) I n c (its.set k (N', M', lt)) := by
 obtain ⟨hl, ⟨C, hC, h0, hj⟩, hz⟩ := h
 have ho := hF.1 (0, 0)
 rw [h0] at ho
 have ho : Ow 70 3 b w I n c (cells3 C) := ho
 obtain ⟨g, rfl, hb, hg⟩ := ho.form_ (by omega)
 obtain ⟨NA, nn, nc, MA, mn, mc, e, q1, q2⟩ := hj k hk
 refine ⟨g, C, NA, nn, nc, MA, mn, mc, rfl, hb, hg, hC, h0, e, q1, q2, fun N' M' lt => ⟨by simpa using hl, ⟨C.set k (.slice NA nn nc, .slice MA mn mc, .bool lt), by simpa using hC, ?_, fun j hlt => ?_⟩, fun j hle => ?_⟩⟩
 ·
  rw [upd_same, cells3_set2 C k (by omega) _ _ _ _ e]
 ·
  by_cases ek : j = k
  ·
   subst ek
   have e1 : (its.set j (N', M', lt))[j]?.getD zIt = (N', M', lt) := by simp [hl, hk]
   have e2 : (C.set j ((.slice NA nn nc, .slice MA mn mc, .bool lt) : C3))[j]?.getD nil3 = (.slice NA nn nc, .slice MA mn mc, .bool lt) := by simp [hC, hk]
   rw [e1, e2]
   exact ⟨NA, nn, nc, MA, mn, mc, rfl, by simp [upd], by simp [upd]⟩
  ·
   have e1 : (its.set k (N', M', lt))[j]?.getD zIt = its[j]?.getD zIt := by rw [List.getElem?_set_ne (fun h => ek h.symm)]
   have e2 : (C.set k ((.slice NA nn nc, .slice MA mn mc, .bool lt) : C3))[j]?.getD nil3 = C[j]?.getD nil3 := by rw [List.getElem?_set_ne (fun h => ek h.symm)]
   rw [e1, e2]
   obtain ⟨NA', nn', nc', MA', mn', mc', q1, q2, q3⟩ := hj j hlt
   exact ⟨NA', nn', nc', MA', mn', mc', q1, by simp [upd, ek, q2], by simp [upd, ek, q3]⟩
 ·
  obtain ⟨q1, q2⟩ := hz j hle
  have ek : j ≠ k := by omega
  exact ⟨by simp [upd, ek, q1], by simp [upd, ek, q2]⟩
theorem TbF.at_ {t k : Nat} (htk : t ≠ k) {R : Fam} {A : Option Addr} {n c b hi i : Nat} {w : World} {ll : List (List Int)} (h : TbF t k R A n c ll) (hF : Fo b hi w R) (hi : i < n) :
  ∃ g B0 m0 d0, A = some ⟨g, 0, none⟩ ∧ b ≤ g ∧ g < w.heap.size ∧ w.cell? ⟨g, i, none⟩ = some (.slice B0 m0 d0) ∧ R (k, i) = rowI B0 m0 d0 (ll[i]?.getD []) ∧ ∀ l', TbF t k (upd R (k, i) (rowI B0 m0 d0 l')) A n c (ll.set i l') := by
 have hkt : k ≠ t := fun e => htk e.symm
 obtain ⟨hl, ⟨B, m, d, h0, hj⟩, hz⟩ := h
 have ho := hF.1 (t, 0)
 rw [h0] at ho
 have ho : Ow 23 1 b w A n c ((List.range n).map fun j => .slice (B j) (m j) (d j)) := ho
 obtain ⟨g, rfl, hb, hg⟩ := ho.form_ (by omega)
 refine ⟨g, B i, m i, d i, rfl, hb, hg, ?_, hj i hi, fun l' => ⟨by simpa using hl, ⟨B, m, d, ?_, fun j hlt => ?_⟩, fun j hle => ?_⟩⟩
 ·
  rw [Ow.cell_ ho _ (by omega)]; simp [hi]
 ·
  simp [upd, htk, h0]
 ·
  by_cases e : j = i
  ·
   subst e
   have : (ll.set j l')[j]?.getD [] = l' := by simp [hl, hlt]
   rw [this]; simp [upd]
  ·
   have : (ll.set i l')[j]?.getD [] = ll[j]?.getD [] := by rw [List.getElem?_set_ne (fun h => e h.symm)]
   rw [this]; simp [upd, e, hj j hlt]
 ·
  have e : j ≠ i := by omega
  simp [upd, e, hz j hle]
theorem cur_step {α : Type} {M l : List α} {x : α} {k : Nat} (hk : k < l.length) (hM : M.length = l.length) (hx : M[k]? = some x) : (M.take k ++ l.drop k).set k x = M.take (k + 1) ++ l.drop (k + 1) := by
 have e : (M.take k).length = k := by rw [List.length_take]; omega
 rw [List.set_append_right _ _ (by omega), e, Nat.sub_self, List.drop_eq_getElem_cons hk, List.set_cons_zero, List.take_add_one, hx]
 simp
theorem cur_at {α : Type} {M l : List α} {k : Nat} (d : α) (hk : k < l.length) (hM : M.length = l.length) : (M.take k ++ l.drop k)[k]?.getD d = l[k]?.getD d := by
 have e : (M.take k).length = k := by rw [List.length_take]; omega
 rw [List.getElem?_append_right (by omega), e, Nat.sub_self, List.getElem?_drop, Nat.add_zero]
/-! What is marked -/
def itWt (it : It) : Int := it.1.length + it.2.1.length + 1
theorem itWt_pos (it : It) : 0 ≤ itWt it := by unfold itWt; omega
def mkIt1 (q : Int) (it : It) : It := (marksT q it.1.length, marksFrom (q + it.1.length) it.2.1.length, decide ((q + it.1.length + it.2.1.length) % 3 = 0))
def mkIts (q : Int) (its : List It) : List It := (List.range its.length).map fun j => mkIt1 (q + wtS itWt (its.take j)) (its[j]?.getD zIt)
theorem mkIts_len (q : Int) (its : List It) : (mkIts q its).length = its.length := by simp [mkIts]
theorem mkIts_at (q : Int) (its : List It) (k : Nat) (h : k < its.length) : (mkIts q its)[k]? = some (mkIt1 (q + wtS itWt (its.take k)) (its[k]?.getD zIt)) := by simp [mkIts, h]
def mkRows (q : Int) (ll : List (List Int)) : List (List Int) := (List.range ll.length).map fun j => marksFrom (q + lenSum (ll.take j)) (ll[j]?.getD []).length
theorem mkRows_len (q : Int) (ll : List (List Int)) : (mkRows q ll).length = ll.length := by simp [mkRows]
theorem mkRows_at (q : Int) (ll : List (List Int)) (k : Nat) (h : k < ll.length) : (mkRows q ll)[k]? = some (marksFrom (q + lenSum (ll.take k)) (ll[k]?.getD []).length) := by simp [mkRows, h]
set_option maxHeartbeats 1000000 in
theorem markItemS_any (w : World) (b hi : Nat) (R : Fam) (I : Option Addr) (n c : Nat) (its : List It) (q : Int) (hF : Fo b hi w R) (hI : ItF R I n c its) (hn : n ≤ 1048576) (hT : wtS itWt its ≤ 1048576) (hq : 0 < q) (hq2 : q ≤ 1048577) :
  Calls Tryz.prog 63 #[.slice I n c, .int .i64 q] w fun e w' => e = .returned (.int .i64 (q + wtS itWt its)) ∧ Mid b hi w w' ∧ ∃ R', Fo b hi w' R' ∧ ItF R' I n c (mkIts q its) ∧ ∀ j : Nat × Nat, j.1 ≠ 0 → j.1 ≠ 3 → j.1 ≠ 4 → R' j = R j := by
 have Hl := Lib.hid hI.1
 go_enter Tryz.func63, Tryz.ntmps63
 go_wp2
 go_loopw [1, 5] (fun t i wr => ∃ (k : Nat) (R' : Fam), k ≤ n ∧ i = .int .i64 k ∧ t = .int .i64 (q + wtS itWt (its.take k)) ∧ Fo b hi wr R' ∧ ItF R' I n c ((mkIts q its).take k ++ its.drop k) ∧ Mid b hi w wr ∧ Hid (∀ j : Nat × Nat, j.1 ≠ 0 → j.1 ≠ 3 → j.1 ≠ 4 → R' j = R j)) (fun _ i _ => n - (intOf i).toNat)
 case atStart => exact ⟨0, R, by omega, rfl, by simp [wtS], hF, by simpa using hI, Mid.refl, fun _ _ _ _ => rfl⟩
 case round =>
  obtain ⟨k, R', hk, rfl, rfl, hf, hit, hm, HR⟩ := hrel
  clear hF hI
  by_cases hlt : k < n
  ·
   have hlk : k < its.length := by rw [Hl.out]; exact hlt
   obtain ⟨g, C, NA, nn, nc, MA, mn, mc, rfl, hbg, hgw, hC, h0, hx, e3, e4, hset⟩ := hit.at_ hf hlt
   rw [cur_at zIt hlk (mkIts_len q its)] at hx e3 e4
   have hw1 := wtS_one itWt_pos zIt its k hlk
   have hw2 := wtS_mono itWt_pos its k
   have hw3 := wtS_nonneg itWt_pos (its.take k)
   have hw4 := wtS_mono itWt_pos its (k + 1)
   have HS := Lib.hid (wtS_succ itWt zIt its k hlk)
   unfold Hid at HS
   rw [HS] at hw4
   have HS := Lib.hid HS
   have HM := Lib.hid (mkIts_at q its k hlk)
   have HC := Lib.hid (cur_step (x := mkIt1 (q + wtS itWt (its.take k)) (its[k]?.getD zIt)) hlk (mkIts_len q its) HM.out)
   generalize wtS itWt (its.take k) = s at *
   generalize its[k]?.getD zIt = it at *
   have hN := hf.ownT e3
   have hM := hf.ownI e4
   have hnl := hN.len
   have hml := hM.len
   have HV : Hid (mkIt1 (q + s) it = (marksT (q + s) nn, marksFrom (q + s + nn) mn, decide ((q + s + nn + mn) % 3 = 0))) := by unfold Hid mkIt1; rw [hnl, hml]
   have hwt : itWt it = nn + mn + 1 := by unfold itWt; rw [hnl, hml]
   rw [hwt] at hw1 hw4
   have HW := Lib.hid hwt
   have hcs := tab_cells hf h0 hC hlt hx
   obtain ⟨⟨hc0, hc1, hc2⟩, hfz⟩ := hcs
   clear hnl hml hwt hM hit HM
   go_wp2_with (first
    | (go_at_call 120; ((with_reducible refine (markStringS_any _ b _ _ _ _ _ hN (by omega) (by omega) (by omega)).mono ?_); rintro e w' ⟨rfl, om, hgr⟩; have F1 := hf.wroteT e3 om hgr; have hcs1 := tab_cells F1.1 (by rw [upd_ne _ _ (by simp)]; exact h0) hC hlt hx; obtain ⟨⟨hd0, hd1, hd2⟩, hfz1⟩ := hcs1; have e4' : upd R' (3, k) (rowT NA nn nc (marksT (q + s) nn)) (4, k) = _ := (upd_ne _ _ (by simp)).trans e4; have hM := F1.1.ownI e4'))
    | (go_at_call 62; ((with_reducible refine (markIntS_any _ b _ _ _ _ _ hM (by omega) (by omega) (by omega)).mono ?_); rintro e w' ⟨rfl, om2, hgr2⟩; have F2 := F1.1.wroteI e4' om2 hgr2; have hcs2 := tab_cells F2.1 (by rw [upd_ne _ _ (by simp), upd_ne _ _ (by simp)]; exact h0) hC hlt hx; obtain ⟨⟨hk0, hk1, hk2⟩, hfz2⟩ := hcs2)))
   have hst := F2.1.wrote (j := (0, 0)) (r := ⟨70, 3, some ⟨g, 0, none⟩, n, c, (cells3 C).set (k * 3 + 2) (.bool (decide ((q + s + nn + mn) % 3 = 0)))⟩) (w' := w'.setCell ⟨g, k * 3 + 2, none⟩ (.bool (decide ((q + s + nn + mn) % 3 = 0)))) (by rw [upd_ne _ _ (by simp), upd_ne _ _ (by simp), h0]; exact gSetM _ _ _ _) (by
    have ho := F2.1.1 (0, 0)
    rw [upd_ne _ _ (by simp), upd_ne _ _ (by simp), h0] at ho
    exact (Ow.stored_ ho _ _).1) (by rw [upd_ne _ _ (by simp), upd_ne _ _ (by simp), h0])
   go_roundw
   case rel => exact ⟨k + 1, _, by omega, by go_num, by rw [HS.out, HW.out]; go_num, hst.1, by rw [← HC.out, HV.out]; exact hset _ _ _, ((hm.trans F1.2).trans F2.2).trans hst.2, fun j h1 h2 h3 => by
    rw [upd_ne _ _ (fun e => h1 (by rw [e])), upd_ne _ _ (fun e => h3 (by rw [e])), upd_ne _ _ (fun e => h2 (by rw [e]))]
    exact HR.out j h1 h2 h3⟩
   case measure => simp [intOf]; omega
  ·
   have hkn : k = n := by omega
   have HE : Hid ((mkIts q its).take k ++ its.drop k = mkIts q its) := by unfold Hid; rw [List.take_of_length_le (by rw [mkIts_len, Hl.out]; omega), List.drop_of_length_le (by rw [Hl.out]; omega), List.append_nil]
   have HE2 : Hid (its.take k = its) := by unfold Hid; rw [List.take_of_length_le (by rw [Hl.out]; omega)]
   rw [HE.out] at hit
   rw [HE2.out]
   clear HE HE2
   go_wp2
   go_ret
   exact ⟨rfl, hm, R', hf, hit, HR.out⟩
set_option maxHeartbeats 1000000 in
theorem heldItemS_any (w : World) (I : Option Addr) (n c : Nat) (its : List It) (q : Int) (hI : RdIt w I n (mkIts q its)) (hn : n ≤ 1048576) (hT : wtS itWt its ≤ 1048576) (hq : 0 < q) (hq2 : q ≤ 1048577) :
  Calls Tryz.prog 65 #[.slice I n c, .int .i64 q] w fun e w' => e = .returned (.int .i64 (q + wtS itWt its)) ∧ ∃ x, w' = ext w x := by
 have Hl : Hid (its.length = n) := (mkIts_len q its).symm.trans hI.len
 go_enter Tryz.func65, Tryz.ntmps65
 go_wp2
 go_loopw [1, 5] (fun t i wr => ∃ (k : Nat) (x : World), k ≤ n ∧ i = .int .i64 k ∧ t = .int .i64 (q + wtS itWt (its.take k)) ∧ wr = ext w x) (fun _ i _ => n - (intOf i).toNat)
 case atStart => exact ⟨0, _, by omega, rfl, by simp [wtS], ext_self w⟩
 case round =>
  obtain ⟨k, x, hk, rfl, rfl, rfl⟩ := hrel
  by_cases hlt : k < n
  ·
   have hlk : k < its.length := by rw [Hl.out]; exact hlt
   obtain ⟨b, off, NA, nn, nc, MA, mn, mc, rfl, hb, c0, c1, c2, o1, o2, o3, o4⟩ := hI.at_ k hlt
   have hw1 := wtS_one itWt_pos zIt its k hlk
   have hw3 := wtS_nonneg itWt_pos (its.take k)
   have hw4 := wtS_mono itWt_pos its (k + 1)
   have HS := Lib.hid (wtS_succ itWt zIt its k hlk)
   unfold Hid at HS
   rw [HS] at hw4
   have HS := Lib.hid HS
   rw [mkIts_at q its k hlk] at c2 o1 o2
   simp only [Option.getD_some] at c2 o1 o2
   generalize wtS itWt (its.take k) = s at *
   generalize its[k]?.getD zIt = it at *
   have hnl : it.1.length = nn := by have := o1.len; simpa [mkIt1, marksT] using this
   have hml : it.2.1.length = mn := by have := o2.len; simpa [mkIt1, marksFrom] using this
   have hwt : itWt it = nn + mn + 1 := by unfold itWt; rw [hnl, hml]
   rw [hwt] at hw1 hw4
   have HW := Lib.hid hwt
   have o1' : RdT w NA nn (marksT (q + s) nn) := by have := o1; rw [mkIt1, hnl] at this; exact this
   have o2' : RdI w MA mn (marksFrom (q + s + nn) mn) := by have := o2; rw [mkIt1, hnl, hml] at this; exact this
   have c2' : w.cell? ⟨b, off + k * 3 + 2, none⟩ = some (.bool (decide ((q + s + nn + mn) % 3 = 0))) := by rw [c2, mkIt1, hnl, hml]
   have hn1 : ¬ q + s + nn < 0 := by omega
   have hn2 : ¬ q + s + nn + mn < 0 := by omega
   have hv : (!(decide ((q + s + nn + mn) % 3 = 0) == ((q + s + nn + mn) % 3 == 0))) = false := by cases hd : decide ((q + s + nn + mn) % 3 = 0) <;> simp_all
   clear hnl hml hwt o1 o2 c2 hI
   go_wp2_with (first
    | (go_at_call 122; ((with_reducible refine (heldStringS_any _ _ _ _ _ _ (o1'.below bl) (by omega) (by omega) (by omega) rfl).mono ?_); rintro e w' ⟨rfl, y1, rfl⟩))
    | (go_at_call 123; ((with_reducible refine (heldIntS_any _ _ _ _ _ _ (o2'.below bl) (by omega) (by omega) (by omega) rfl).mono ?_); rintro e w' ⟨rfl, rfl⟩)))
   go_roundw
   case rel => exact ⟨k + 1, _, by omega, by go_num, by rw [HS.out, HW.out]; go_num, (ext_ex bl).choose_spec⟩
   case measure => simp [intOf]; omega
  ·
   have HE2 : Hid (its.take k = its) := by unfold Hid; rw [List.take_of_length_le (by rw [Hl.out]; omega)]
   rw [HE2.out]
   go_wp2
   go_ret
   exact ⟨rfl, _, rfl⟩
set_option maxHeartbeats 1000000 in
theorem markIntSS_F (t0 k0 : Nat) (htk : t0 ≠ k0) (w : World) (b hi : Nat) (R : Fam) (A : Option Addr) (n c : Nat) (ll : List (List Int)) (q : Int) (hF : Fo b hi w R) (hI : TbF t0 k0 R A n c ll) (hn : n ≤ 1048576) (hT : lenSum ll ≤ 1048576) (hq : 0 < q) (hq2 : q ≤ 2097153) :
  Calls Tryz.prog 121 #[.slice A n c, .int .i64 q] w fun e w' => e = .returned (.int .i64 (q + lenSum ll)) ∧ Mid b hi w w' ∧ ∃ R', Fo b hi w' R' ∧ TbF t0 k0 R' A n c (mkRows q ll) ∧ ∀ j : Nat × Nat, j.1 ≠ k0 → R' j = R j := by
 have Hl := Lib.hid hI.1
 go_enter Tryz.func121, Tryz.ntmps121
 go_wp2
 go_loopw [1, 5] (fun t i wr => ∃ (k : Nat) (R' : Fam), k ≤ n ∧ i = .int .i64 k ∧ t = .int .i64 (q + lenSum (ll.take k)) ∧ Fo b hi wr R' ∧ TbF t0 k0 R' A n c ((mkRows q ll).take k ++ ll.drop k) ∧ Mid b hi w wr ∧ Hid (∀ j : Nat × Nat, j.1 ≠ k0 → R' j = R j)) (fun _ i _ => n - (intOf i).toNat)
 case atStart => exact ⟨0, R, by omega, rfl, by simp [lenSum], hF, by simpa using hI, Mid.refl, fun _ _ => rfl⟩
 case round =>
  obtain ⟨k, R', hk, rfl, rfl, hf, hit, hm, HR⟩ := hrel
  clear hF hI
  by_cases hlt : k < n
  ·
   have hlk : k < ll.length := by rw [Hl.out]; exact hlt
   obtain ⟨g, B0, m0, d0, rfl, hbg, hgw, hc, e3, hset⟩ := hit.at_ htk hf hlt
   rw [cur_at [] hlk (mkRows_len q ll)] at e3
   have h1 := lenSum_one ll k hlk
   have h2 := lenSum_mono ll k
   have h3 := lenSum_nonneg (ll.take k)
   have h4 := lenSum_mono ll (k + 1)
   have HS := Lib.hid (lenSum_succ ll k hlk)
   unfold Hid at HS
   rw [HS] at h4
   have HM := Lib.hid (mkRows_at q ll k hlk)
   have HC := Lib.hid (cur_step (x := marksFrom (q + lenSum (ll.take k)) (ll[k]?.getD []).length) hlk (mkRows_len q ll) HM.out)
   have hr := hf.ownI e3
   have hml : (ll[k]?.getD []).length = m0 := hr.len
   rw [hml] at h1 h4 HC HS
   have HS := Lib.hid HS
   clear hml HM hit
   generalize lenSum (ll.take k) = s at *
   generalize ll[k]?.getD [] = lk at *
   go_wp2_with (first | (go_at_call 62; ((with_reducible refine (markIntS_any _ b _ _ _ _ _ hr (by omega) (by omega) (by omega)).mono ?_); rintro e w' ⟨rfl, om, hgr⟩; have F1 := hf.wroteI e3 om hgr)))
   go_roundw
   case rel => exact ⟨k + 1, _, by omega, by go_num, by rw [HS.out]; go_num, F1.1, by rw [← HC.out]; exact hset _, hm.trans F1.2, fun j h1 => by
    rw [upd_ne _ _ (fun e => h1 (by rw [e]))]
    exact HR.out j h1⟩
   case measure => simp [intOf]; omega
  ·
   have HE : Hid ((mkRows q ll).take k ++ ll.drop k = mkRows q ll) := by unfold Hid; rw [List.take_of_length_le (by rw [mkRows_len, Hl.out]; omega), List.drop_of_length_le (by rw [Hl.out]; omega), List.append_nil]
   have HE2 : Hid (ll.take k = ll) := by unfold Hid; rw [List.take_of_length_le (by rw [Hl.out]; omega)]
   rw [HE.out] at hit
   rw [HE2.out]
   clear HE HE2
   go_wp2
   go_ret
   exact ⟨rfl, hm, R', hf, hit, HR.out⟩
set_option maxHeartbeats 1000000 in
theorem heldIntSS_any (w : World) (A : Option Addr) (n c : Nat) (ll : List (List Int)) (q : Int) (hI : RdM w A n (mkRows q ll)) (hn : n ≤ 1048576) (hT : lenSum ll ≤ 1048576) (hq : 0 < q) (hq2 : q ≤ 2097153) :
  Calls Tryz.prog 124 #[.slice A n c, .int .i64 q] w fun e w' => e = .returned (.int .i64 (q + lenSum ll)) ∧ w = w' := by
 have Hl : Hid (ll.length = n) := (mkRows_len q ll).symm.trans hI.len
 go_enter Tryz.func124, Tryz.ntmps124
 go_wp2
 go_loop [1, 5] (fun t i => ∃ (k : Nat), k ≤ n ∧ i = .int .i64 k ∧ t = .int .i64 (q + lenSum (ll.take k))) (fun _ i => n - (intOf i).toNat)
 case atStart => exact ⟨0, by omega, rfl, by simp [lenSum]⟩
 case round =>
  obtain ⟨k, hk, rfl, rfl⟩ := hrel
  by_cases hlt : k < n
  ·
   have hlk : k < ll.length := by rw [Hl.out]; exact hlt
   obtain ⟨b, off, rfl, hb, hc⟩ := hI.2 (by omega)
   obtain ⟨B0, m0, d0, q1, q2, q3, q4⟩ := hc k hlt
   rw [mkRows_at q ll k hlk] at q2
   simp only [Option.getD_some] at q2
   have h1 := lenSum_one ll k hlk
   have h2 := lenSum_mono ll k
   have h3 := lenSum_nonneg (ll.take k)
   have h4 := lenSum_mono ll (k + 1)
   have HS := Lib.hid (lenSum_succ ll k hlk)
   unfold Hid at HS
   rw [HS] at h4
   have hml : (ll[k]?.getD []).length = m0 := by have := q2.len; simpa [marksFrom] using this
   rw [hml] at h1 h4 HS q2
   have HS := Lib.hid HS
   clear hml hc hI
   generalize lenSum (ll.take k) = s at *
   have hn1 : ¬ q + s + m0 < 0 := by omega
   go_wp2_with (first | (go_at_call 123; ((with_reducible refine (heldIntS_any _ _ _ _ _ _ q2 (by omega) (by omega) (by omega) rfl).mono ?_); rintro e w' ⟨rfl, rfl⟩)))
   go_round
   case rel => exact ⟨k + 1, by omega, by go_num, by rw [HS.out]; go_num⟩
   case measure => simp [intOf]; omega
  ·
   have HE2 : Hid (ll.take k = ll) := by unfold Hid; rw [List.take_of_length_le (by rw [Hl.out]; omega)]
   rw [HE2.out]
   go_wp2
   go_ret
   exact ⟨rfl, rfl⟩
end Go.Proofs.YtmeaklaagglmeaaGreatDoor
namespace Go.Proofs.YtmeaklaagglmeaaGreatDoor
open Go.RowKit
section
variable {ops : Array Oper} {rest : List Oper} {o : Oper} {a : Act} {Q : Exit → Act → World → Prop}
theorem wpl_push_item (R W : World) (v0 v1 v2 : Value) (hv : v0.oneCell' = true ∧ v1.oneCell' = true ∧ v2.oneCell' = true) (gx : Nat) (hgx : gx = W.heap.size) (hgd : o.guard = none) (s x : Operand) (ho : o.op = .call { callee := .builtin .append, args := #[s, x], argTypes := #[27, 27] })
  (A : Option Addr) (n c : Nat) (xs : List Value) (hs : a.eval s = .slice A n c) {base : Nat} (hbase : R.heap.size ≤ base) (hbW : base ≤ W.heap.size) {W₀ : World} (hown₀ : Ow 70 3 base W₀ A n c xs) (hW₀ : Below W₀.heap.size W₀ W) (hR : Below R.heap.size R W)
  (hx : a.eval x = .slice (some ⟨gx, 0, none⟩) 1 1) (hn : n ≤ 1099511627776)
  (h : ∀ A' c' y, Ow 70 3 base (ext R y) A' (n + 1) c' (xs ++ [v0, v1, v2]) → W.grownBy (ext R y) (blkOf A) → (blkOf A' = blkOf A ∨ ∃ g, blkOf A' = some g ∧ W.heap.size < g) → wpList Tryz.prog ops Q rest (a.put o.dst (.slice A' (n + 1) c')) (ext R y)) :
  wpList Tryz.prog ops Q (o :: rest) a (W.alloc (.cells #[v0, v1, v2] 70)) := by
 subst hgx
 have hown := hown₀.below hW₀
 obtain ⟨i0, hi0, hz0, hz1, hz2⟩ := info_parts Item_info
 have hRw : Below R.heap.size R (W.alloc (.cells #[v0, v1, v2] 70)) := bAlloc hR _
 have hown1 := hown.below (bAlloc (Below.refl W.heap.size W) (.cells #[v0, v1, v2] 70))
 refine wpList_append_own_at _ hgd s x _ ho base 70 i0 _ 3 _ Tryz.underlying27 hi0 hz0 hz1 hz2 rfl (by omega) (.slice A n c) n xs hs hown1
  ⟨W.heap.size, 0, none⟩ 1 1 [v0, v1, v2] hx rfl ?_ ?_ (by simp only [maxLen]; omega) (by omega) (by simp; omega) ?_
 ·
  intro j u hu
  match j with
  | 0 => simp at hu; subst hu; simp [Addr.add, go_sem]
  | 1 => simp at hu; subst hu; simp [Addr.add, go_sem]
  | 2 => simp at hu; subst hu; simp [Addr.add, go_sem]
  | j + 3 => simp at hu
 ·
  intro u hu
  simp only [List.mem_cons, List.not_mem_nil, or_false] at hu
  rcases hu with rfl | rfl | rfl
  ·
   exact hv.1
  ·
   exact hv.2.1
  ·
   exact hv.2.2
 ·
  intro v' w' hown' hg _ hd
  rw [ownBlock_slice] at hg hd
  have hBw : Below R.heap.size R w' := below_grown hRw hg (fun k hk => Nat.le_trans hbase (hown1.blk hk).1)
  obtain ⟨y, rfl⟩ := ext_ex hBw
  rcases hown'.2 with ⟨_, h0⟩ | ⟨g', cap, cur, rfl, hrest⟩
  ·
   omega
  ·
   rw [ownBlock_slice] at hd
   refine h _ _ y hown' ((World.grownBy_alloc W _ _).trans hg) ?_
   rcases hd with hd | hd
   ·
    exact .inl hd
   ·
    exact .inr ⟨_, hd, by simp⟩
end
end Go.Proofs.YtmeaklaagglmeaaGreatDoor
namespace Go.Proofs.YtmeaklaagglmeaaGreatDoor
open Go.RowKit
section
variable {b hi : Nat} {w w' : World} {R : Fam} {j : Nat × Nat}
theorem Fo.lit (h : Fo b hi w R) (hn : R j = rowN) (hw : hi ≤ w.heap.size) (hb : b ≤ w.heap.size) (e s n : Nat) (cs : Array Value) (hs : cs.size = n * s) (hm : n ≤ maxLen) (l : List Value) (hl : cs.toList = l) : Fo b (w.heap.size + 1) (w.alloc (.cells cs e)) (upd R j ⟨e, s, some ⟨w.heap.size, 0, none⟩, n, n, l⟩) := by
 subst hl
 refine h.put (by rw [hn]; exact grownBy_of_below bl) ?_ (.inr (.inr ⟨w.heap.size, rfl, hw⟩)) (by omega) (fun z hz => by have : w.heap.size = z := Option.some.inj hz; omega)
 exact World.ownsRow_lit (base := b) (e := e) (size := s) w cs n hb hm hs
theorem Fo.store {e s g n c : Nat} {xs : List Value} (h : Fo b hi w R) (e0 : R j = ⟨e, s, some ⟨g, 0, none⟩, n, c, xs⟩) (i : Nat) (v : Value) : Fo b hi (w.setCell ⟨g, i, none⟩ v) (upd R j ⟨e, s, some ⟨g, 0, none⟩, n, c, xs.set i v⟩) := by
 refine (h.wrote (by rw [e0]; exact gSetM _ _ _ _) ?_ (by rw [e0])).1
 have ho := h.1 j
 rw [e0] at ho
 exact (Ow.stored_ ho i v).1
theorem Fo.at_ {e s n c : Nat} {A : Option Addr} {xs : List Value} (h : Fo b hi w R) (e0 : R j = ⟨e, s, A, n, c, xs⟩) : Ow e s b w A n c xs := by
 have ho := h.1 j
 rw [e0] at ho
 exact ho
theorem Fo.cell {e s g n c : Nat} {xs : List Value} (h : Fo b hi w R) (e0 : R j = ⟨e, s, some ⟨g, 0, none⟩, n, c, xs⟩) (i : Nat) (v : Value) (hv : xs[i]? = some v) : w.cell? ⟨g, i, none⟩ = some v ∧ w.frozen? ⟨g, i, none⟩ = false := by
 have ho := h.at_ e0
 have hl := ho.len
 have hi := (List.getElem?_eq_some_iff.1 hv).1
 exact ⟨(Ow.cell_ ho i (by omega)).trans hv, Ow.frozen_ ho i⟩
theorem Fo.free {i k : Nat × Nat} (h : Fo b hi w R) (hne : i ≠ k) : blkOf (R i).A = none ∨ blkOf (R i).A ≠ blkOf (R k).A := h.2.1 i k hne
theorem Fo.addT {A : Option Addr} {n c b' : Nat} {l : List ByteArray} (h : Fo b hi w R) (hn : R j = rowN) (hb : Below w.heap.size w w') (hw : hi ≤ w.heap.size) (hb' : hi ≤ b') (hbb : b ≤ b') (ho : OwT b' w' A n c l) : Fo b w'.heap.size w' (upd R j (rowT A n c l)) := h.add hn hb hw hb' hbb ho (Nat.le_refl _)
theorem Fo.addI {A : Option Addr} {n c b' : Nat} {l : List Int} (h : Fo b hi w R) (hn : R j = rowN) (hb : Below w.heap.size w w') (hw : hi ≤ w.heap.size) (hb' : hi ≤ b') (hbb : b ≤ b') (ho : OwI b' w' A n c l) : Fo b w'.heap.size w' (upd R j (rowI A n c l)) := h.add hn hb hw hb' hbb ho (Nat.le_refl _)
theorem Fo.grewT {A A' : Option Addr} {n c n' c' : Nat} {l l' : List ByteArray} (h : Fo b hi w R) (e0 : R j = rowT A n c l) (hg : w.grownBy w' (blkOf A)) (ho : OwT b w' A' n' c' l') (hd : blkOf A' = blkOf A ∨ ∃ g, blkOf A' = some g ∧ w.heap.size < g) (hw : hi ≤ w.heap.size) : Fo b w'.heap.size w' (upd R j (rowT A' n' c' l')) := by
 refine h.put (by rw [e0]; exact hg) ho ?_ (Nat.le_trans hw hg.size) (fun z hz => (Ow.blk ho hz).2)
 rcases hd with hd | ⟨g, hd, hlt⟩
 ·
  exact .inl (by rw [e0]; exact hd)
 ·
  exact .inr (.inr ⟨g, hd, by omega⟩)
theorem Fo.grewI {A A' : Option Addr} {n c n' c' : Nat} {l l' : List Int} (h : Fo b hi w R) (e0 : R j = rowI A n c l) (hg : w.grownBy w' (blkOf A)) (ho : OwI b w' A' n' c' l') (hd : blkOf A' = blkOf A ∨ ∃ g, blkOf A' = some g ∧ w.heap.size < g) (hw : hi ≤ w.heap.size) : Fo b w'.heap.size w' (upd R j (rowI A' n' c' l')) := by
 refine h.put (by rw [e0]; exact hg) ho ?_ (Nat.le_trans hw hg.size) (fun z hz => (Ow.blk ho hz).2)
 rcases hd with hd | ⟨g, hd, hlt⟩
 ·
  exact .inl (by rw [e0]; exact hd)
 ·
  exact .inr (.inr ⟨g, hd, by omega⟩)
theorem Fo.grew {e s : Nat} {A A' : Option Addr} {n c n' c' : Nat} {xs xs' : List Value} (h : Fo b hi w R) (e0 : R j = ⟨e, s, A, n, c, xs⟩) (hg : w.grownBy w' (blkOf A)) (ho : Ow e s b w' A' n' c' xs') (hd : blkOf A' = blkOf A ∨ ∃ g, blkOf A' = some g ∧ w.heap.size < g) (hw : hi ≤ w.heap.size) : Fo b w'.heap.size w' (upd R j ⟨e, s, A', n', c', xs'⟩) := by
 refine h.put (by rw [e0]; exact hg) ho ?_ (Nat.le_trans hw hg.size) (fun z hz => (Ow.blk ho hz).2)
 rcases hd with hd | ⟨g, hd, hlt⟩
 ·
  exact .inl (by rw [e0]; exact hd)
 ·
  exact .inr (.inr ⟨g, hd, by omega⟩)
theorem Fo.below' (h : Fo b hi w R) (hb : Below w.heap.size w w') (hw : hi ≤ w.heap.size) : Fo b w'.heap.size w' R := (h.below hb).mono (Nat.le_refl _) (Nat.le_trans hw hb.size)
theorem Fo.drop_ (h : Fo b hi w R) (j : Nat × Nat) : Fo b hi w (upd R j rowN) := by
 refine ⟨fun i => ?_, fun i k hik => ?_, fun i z hz => ?_⟩
 ·
  by_cases e : i = j
  ·
   subst e; rw [upd_same]; exact Ow.nil_
  ·
   rw [upd_ne _ _ e]; exact h.1 i
 ·
  by_cases e : i = j
  ·
   subst e; rw [upd_same]; exact .inl rfl
  ·
   rw [upd_ne _ _ e]
   by_cases e2 : k = j
   ·
    subst e2
    rw [upd_same]
    cases blkOf (R i).A with
    | none => exact .inl rfl
    | some z => exact .inr (by show some z ≠ none; simp)
   ·
    rw [upd_ne _ _ e2]; exact h.2.1 i k hik
 ·
  by_cases e : i = j
  ·
   subst e; rw [upd_same] at hz; cases hz
  ·
   rw [upd_ne _ _ e] at hz; exact h.2.2 i z hz
end
end Go.Proofs.YtmeaklaagglmeaaGreatDoor
namespace Go.Proofs.YtmeaklaagglmeaaGreatDoor
open Go.RowKit
def PfF (R : Fam) (I : Option Addr) (n c : Nat) (its : List It) (GA : Option Addr) (gn gc : Nat) (gg : List (List Int)) (KA : Option Addr) (kn kc : Nat) (kk : List (List Int)) : Prop := ItF R I n c its ∧ TbF 1 5 R GA gn gc gg ∧ TbF 2 6 R KA kn kc kk
set_option maxHeartbeats 1000000 in
theorem markMarks_F (w : World) (b hi : Nat) (R : Fam) (A B : Option Addr) (n m c d : Nat) (gg kk : List (List Int)) (q : Int) (hF : Fo b hi w R) (hA : TbF 1 5 R A n c gg) (hB : TbF 2 6 R B m d kk) (hn : n ≤ 1048576) (hm : m ≤ 1048576) (hT : lenSum gg + lenSum kk ≤ 1048576) (hhi : hi ≤ w.heap.size) (hq : 0 < q) (hq2 : q ≤ 1048577) :
  Calls Tryz.prog 64 #[.agg #[.slice A n c, .slice B m d], .int .i64 q] w fun e w' => e = .returned (.int .i64 (q + (lenSum gg + lenSum kk))) ∧ Mid b hi w w' ∧ ∃ R', Fo b hi w' R' ∧ TbF 1 5 R' A n c (mkRows q gg) ∧ TbF 2 6 R' B m d (mkRows (q + lenSum gg) kk) ∧ ∀ j : Nat × Nat, j.1 ≠ 5 → j.1 ≠ 6 → R' j = R j := by
 have b3 := lenSum_nonneg gg
 have b4 := lenSum_nonneg kk
 have b5 : lenSum gg ≤ 1048576 := by omega
 have b6 : lenSum kk ≤ 1048576 := by omega
 have hbx : ∀ o : Obj, Below w.heap.size w (w.alloc o) := fun o => by repeat first | exact .refl _ _ | assumption | refine bExt ?_ _ | refine bAlloc ?_ _ | refine bDrewN ?_ _ | refine bDrew ?_ | refine bSet ?_ (by first | exact Nat.le_refl _ | omega | (simp <;> omega)) _
 have hsz : (w.alloc (.cells #[.slice A n c, .slice B m d] 30)).heap.size = w.heap.size + 1 := by simp [go_sem]
 go_enter Tryz.func64, Tryz.ntmps64
 go_wp2_with (first
  | (go_at_call 121; ((with_reducible refine (markIntSS_F 1 5 (by decide) _ b hi R _ _ _ _ _ (hF.below (hbx _)) hA hn b5 (by omega) (by omega)).mono ?_); rintro e w' ⟨rfl, hmA, R1, F1, g1, k1⟩; (have hcell : w'.cell? ⟨w.heap.size, 1, none⟩ = some (.slice B m d) := (hmA.cell (by rw [hsz]; omega) (.inr (by omega))).trans (by simp [go_sem]); have hB' := hB.of (k1 (2, 0) (by decide)) (fun j => k1 (6, j) (by show 6 ≠ 5; decide)))))
  | (go_at_call 121; ((with_reducible refine (markIntSS_F 2 6 (by decide) _ b hi R1 _ _ _ _ _ F1 hB' hm b6 (by omega) (by omega)).mono ?_); rintro e w' ⟨rfl, hmB, R2, F2, g2, k2⟩)))
 go_ret
 exact ⟨ret_int (by omega), ((Mid.of_below (hbx _)).trans hmA).trans hmB, R2, F2, g1.of (k2 (1, 0) (by decide)) (fun j => k2 (5, j) (by show 5 ≠ 6; decide)), g2, fun j h1 h2 => (k2 j h2).trans (k1 j h1)⟩
set_option maxHeartbeats 1000000 in
theorem heldMarks_any (w : World) (A B : Option Addr) (n m c d : Nat) (gg kk : List (List Int)) (q : Int) (hA : RdM w A n (mkRows q gg)) (hB : RdM w B m (mkRows (q + lenSum gg) kk)) (hn : n ≤ 1048576) (hm : m ≤ 1048576) (hT : lenSum gg + lenSum kk ≤ 1048576) (hq : 0 < q) (hq2 : q ≤ 1048577) :
  Calls Tryz.prog 66 #[.agg #[.slice A n c, .slice B m d], .int .i64 q] w fun e w' => e = .returned (.int .i64 (q + (lenSum gg + lenSum kk))) ∧ ∃ x, w' = ext w x := by
 have b3 := lenSum_nonneg gg
 have b4 := lenSum_nonneg kk
 have c1 := fun W (h : Below w.heap.size w W) => heldIntSS_any W A n c gg q (hA.below h) hn (by omega) hq (by omega)
 have c2 := fun W (h : Below w.heap.size w W) => heldIntSS_any W B m d kk (q + lenSum gg) (hB.below h) hm (by omega) (by omega) (by omega)
 have hn1 : ¬ q + lenSum gg < 0 := by omega
 have hn2 : ¬ q + lenSum gg + lenSum kk < 0 := by omega
 go_enter Tryz.func66, Tryz.ntmps66
 go_wp2_with (first | (go_at_call 124; ((with_reducible refine (c1 _ bl).mono ?_); rintro e w' ⟨rfl, rfl⟩)) | (go_at_call 124; ((with_reducible refine (c2 _ bl).mono ?_); rintro e w' ⟨rfl, rfl⟩)))
 go_ret
 exact ⟨ret_int (by omega), ext_ex bl⟩
set_option maxHeartbeats 1000000 in
theorem markPerformance_any (w : World) (b hi : Nat) (R : Fam) (I GA KA : Option Addr) (n c gn gc kn kc : Nat) (its : List It) (gg kk : List (List Int)) (s1 s2 s3 : Int) (q : Int) (hF : Fo b hi w R) (hP : PfF R I n c its GA gn gc gg KA kn kc kk) (hn : n ≤ 1048576) (hgn : gn ≤ 1048576) (hkn : kn ≤ 1048576) (hT : wtS itWt its ≤ 1048576) (hT2 : lenSum gg + lenSum kk ≤ 1048576) (hhi : hi ≤ w.heap.size) (hq : 0 < q) (hq2 : q ≤ 1) :
  Calls Tryz.prog 17 #[.agg #[.slice I n c, .slice GA gn gc, .slice KA kn kc, .int .i64 s1, .int .i64 s2, .int .i64 s3], .int .i64 q] w fun e w' => e = .returned (.int .i64 (q + wtS itWt its + (lenSum gg + lenSum kk))) ∧ Mid b hi w w' ∧ ∃ R', Fo b hi w' R' ∧ PfF R' I n c (mkIts q its) GA gn gc (mkRows (q + wtS itWt its) gg) KA kn kc (mkRows (q + wtS itWt its + lenSum gg) kk) := by
 obtain ⟨hI, hA, hB⟩ := hP
 have b0 := wtS_nonneg itWt_pos its
 have hbx : ∀ o : Obj, Below w.heap.size w (w.alloc o) := fun o => by repeat first | exact .refl _ _ | assumption | refine bExt ?_ _ | refine bAlloc ?_ _ | refine bDrewN ?_ _ | refine bDrew ?_ | refine bSet ?_ (by first | exact Nat.le_refl _ | omega | (simp <;> omega)) _
 have hsz : (w.alloc (.cells #[.slice I n c, .slice GA gn gc, .slice KA kn kc, .int .i64 s1, .int .i64 s2, .int .i64 s3] 34)).heap.size = w.heap.size + 1 := by simp [go_sem]
 go_enter Tryz.func17, Tryz.ntmps17
 go_wp2_with (first
  | (go_at_call 63; ((with_reducible refine (markItemS_any _ b hi R _ _ _ _ _ (hF.below (hbx _)) hI hn hT (by omega) (by omega)).mono ?_); rintro e w' ⟨rfl, hmA, R1, F1, g1, k1⟩; (have hcell1 : w'.cell? ⟨w.heap.size, 1, none⟩ = some (.slice GA gn gc) := (hmA.cell (by rw [hsz]; omega) (.inr (by omega))).trans (by simp [go_sem]); have hcell2 : w'.cell? ⟨w.heap.size, 2, none⟩ = some (.slice KA kn kc) := (hmA.cell (by rw [hsz]; omega) (.inr (by omega))).trans (by simp [go_sem]); have hA' := hA.of (k1 (1, 0) (by decide) (by decide) (by decide)) (fun j => k1 (5, j) (by show 5 ≠ 0; decide) (by show 5 ≠ 3; decide) (by show 5 ≠ 4; decide)); have hB' := hB.of (k1 (2, 0) (by decide) (by decide) (by decide)) (fun j => k1 (6, j) (by show 6 ≠ 0; decide) (by show 6 ≠ 3; decide) (by show 6 ≠ 4; decide)))))
  | (go_at_call 64; ((with_reducible refine (markMarks_F _ b hi R1 _ _ _ _ _ _ _ _ _ F1 hA' hB' hgn hkn hT2 (by have := hmA.size; rw [hsz] at this; omega) (by omega) (by omega)).mono ?_); rintro e w' ⟨rfl, hmB, R2, F2, g2, g3, k2⟩)))
 go_ret
 exact ⟨rfl, ((Mid.of_below (hbx _)).trans hmA).trans hmB, R2, F2, g1.of (k2 (0, 0) (by decide) (by decide)) (fun j => ⟨k2 (3, j) (by show 3 ≠ 5; decide) (by show 3 ≠ 6; decide), k2 (4, j) (by show 4 ≠ 5; decide) (by show 4 ≠ 6; decide)⟩), g2, g3⟩
set_option maxHeartbeats 1000000 in
theorem heldPerformance_any (w : World) (I GA KA : Option Addr) (n c gn gc kn kc : Nat) (its : List It) (gg kk : List (List Int)) (s1 s2 s3 : Int) (q : Int) (hI : RdIt w I n (mkIts q its)) (hA : RdM w GA gn (mkRows (q + wtS itWt its) gg)) (hB : RdM w KA kn (mkRows (q + wtS itWt its + lenSum gg) kk)) (hn : n ≤ 1048576) (hgn : gn ≤ 1048576) (hkn : kn ≤ 1048576) (hT : wtS itWt its ≤ 1048576) (hT2 : lenSum gg + lenSum kk ≤ 1048576) (hq : 0 < q) (hq2 : q ≤ 1) :
  Calls Tryz.prog 18 #[.agg #[.slice I n c, .slice GA gn gc, .slice KA kn kc, .int .i64 s1, .int .i64 s2, .int .i64 s3], .int .i64 q] w fun e w' => e = .returned (.int .i64 (q + wtS itWt its + (lenSum gg + lenSum kk))) ∧ ∃ x, w' = ext w x := by
 have b0 := wtS_nonneg itWt_pos its
 have b3 := lenSum_nonneg gg
 have b4 := lenSum_nonneg kk
 have c1 := fun W (h : Below w.heap.size w W) => heldItemS_any W I n c its q (hI.below h) hn hT hq (by omega)
 have c2 := fun W (h : Below w.heap.size w W) => heldMarks_any W GA KA gn kn gc kc gg kk (q + wtS itWt its) (hA.below h) (hB.below h) hgn hkn hT2 (by omega) (by omega)
 have hn1 : ¬ q + wtS itWt its < 0 := by omega
 have hn2 : ¬ q + wtS itWt its + (lenSum gg + lenSum kk) < 0 := by omega
 go_enter Tryz.func18, Tryz.ntmps18
 go_wp2_with (first | (go_at_call 65; ((with_reducible refine (c1 _ bl).mono ?_); rintro e w' ⟨rfl, y1, rfl⟩)) | (go_at_call 66; ((with_reducible refine (c2 _ bl).mono ?_); rintro e w' ⟨rfl, y2, rfl⟩)))
 go_ret
 exact ⟨rfl, ext_ex bl⟩
set_option maxHeartbeats 1000000 in
theorem markElementS_any (w : World) (e0 base : Nat) (A : Option Addr) (n c : Nat) (l : List El) (q : Int) (ha : OwEl e0 base w A n c l) (hn : n ≤ 1048576) (hq : 0 < q) (hq2 : q ≤ 1048577) :
  Calls Tryz.prog 61 #[.slice A n c, .int .i64 q] w fun e w' => e = .returned (.int .i64 (q + 4 * n)) ∧ w.grownBy w' (blkOf A) := by
 go_enter Tryz.func61, Tryz.ntmps61
 go_wp2
 go_loopw [1, 5] (fun t i wr => ∃ (k : Nat) (l' : List El), k ≤ n ∧ i = .int .i64 k ∧ t = .int .i64 (q + 4 * k) ∧ OwEl e0 base wr A n c l' ∧ w.grownBy wr (blkOf A)) (fun _ i _ => n - (intOf i).toNat)
 case atStart => exact ⟨0, l, by omega, rfl, by simp, ha, World.grownBy.refl _ _⟩
 case round =>
  obtain ⟨k, l', hk, rfl, rfl, ho, hg⟩ := hrel
  by_cases hlt : k < n
  ·
   obtain ⟨g, rfl, hb, hz⟩ := Ow.form_ ho (by omega)
   go_wp2_with (go_at_call 119; ((with_reducible refine (markText_any _ _ (by omega) (by omega)).mono ?_); rintro e w' ⟨rfl, x, rfl⟩; have ho2 := ho.below (ext_below _ x); have hcc := ho2.cell_ k hlt; obtain ⟨hc0, hc1, hc2, hc3⟩ := hcc; have hf0 := ho2.frozen_ (k * 4); have hf1 := ho2.frozen_ (k * 4 + 1); have hf2 := ho2.frozen_ (k * 4 + 2); have hf3 := ho2.frozen_ (k * 4 + 3); generalize (l'[k]?.getD zEl).1 = z0 at hc0; generalize (l'[k]?.getD zEl).2.1 = z1 at hc1; generalize (l'[k]?.getD zEl).2.2.1 = z2 at hc2; generalize (l'[k]?.getD zEl).2.2.2 = z3 at hc3))
   have hst := ho2.stored_ k hlt (markT (q + 4 * k), q + 4 * k + 1, q + 4 * k + 1 + 1, q + 4 * k + 1 + 1 + 1)
   go_roundw
   case rel => exact ⟨k + 1, _, by omega, by go_num, by go_num, hst, gSet (gSet (gSet (gSet (gExt hg x) _ _) _ _) _ _) _ _⟩
   case measure => simp [intOf]; omega
  ·
   have hkn := Lib.hid (show k = n by omega)
   go_wp2
   go_ret
   exact ⟨ret_int (by rw [hkn.out]), hg⟩
set_option maxHeartbeats 1000000 in
theorem markCode_any (w : World) (e0 base hi : Nat) (A B : Option Addr) (n m c d : Nat) (els : List El) (lims : List Int) (q0 q1 q2 q3 q : Int) (hA : OwEl e0 base w A n c els) (hB : OwI base w B m d lims) (hne : blkOf B = none ∨ blkOf B ≠ blkOf A) (hAh : ∀ z, blkOf A = some z → z < hi) (hBh : ∀ z, blkOf B = some z → z < hi) (hhi : hi ≤ w.heap.size) (hn : n ≤ 1048576) (hm : m ≤ 1048576) (hq : 0 < q) (hq2 : q ≤ 1048577) :
  Calls Tryz.prog 16 #[.agg #[.slice A n c, .slice B m d, .int .i64 q0, .int .i64 q1, .int .i64 q2, .int .i64 q3], .int .i64 q] w fun e w' => e = .returned (.int .i64 (q + 4 * n + m)) ∧ Mid base hi w w' := by
 have hbx : ∀ o : Obj, Below w.heap.size w (w.alloc o) := fun o => by repeat first | exact .refl _ _ | assumption | refine bExt ?_ _ | refine bAlloc ?_ _ | refine bDrewN ?_ _ | refine bDrew ?_ | refine bSet ?_ (by first | exact Nat.le_refl _ | omega | (simp <;> omega)) _
 have hsz : (w.alloc (.cells #[.slice A n c, .slice B m d, .int .i64 q0, .int .i64 q1, .int .i64 q2, .int .i64 q3] 39)).heap.size = w.heap.size + 1 := by simp [go_sem]
 have hAb : ∀ z, blkOf A = some z → base ≤ z ∧ z < w.heap.size := fun z hz => Ow.blk hA hz
 have hBb : ∀ z, blkOf B = some z → base ≤ z ∧ z < w.heap.size := fun z hz => Ow.blk hB hz
 go_enter Tryz.func16, Tryz.ntmps16
 go_wp2_with (first
  | (go_at_call 61; ((with_reducible refine (markElementS_any _ e0 base _ _ _ _ _ (hA.below (hbx _)) hn (by omega) (by omega)).mono ?_); rintro e w' ⟨rfl, hgA⟩; (have hMA : Mid base hi _ w' := Mid.of_grown hgA (fun z hz => ⟨(hAb z hz).1, hAh z hz⟩); have hcell : w'.cell? ⟨w.heap.size, 1, none⟩ = some (.slice B m d) := (hMA.cell (by rw [hsz]; omega) (.inr (by omega))).trans (by simp [go_sem]); have hB' := (hB.below (hbx (.cells #[.slice A n c, .slice B m d, .int .i64 q0, .int .i64 q1, .int .i64 q2, .int .i64 q3] 39))).kept hgA hne)))
  | (go_at_call 62; ((with_reducible refine (markIntS_any _ base _ _ _ _ _ hB' (by omega) (by omega) (by omega)).mono ?_); rintro e w' ⟨rfl, om, hgB⟩)))
 go_ret
 exact ⟨rfl, ((Mid.of_below (hbx _)).trans hMA).trans (Mid.of_grown hgB (fun z hz => ⟨(hBb z hz).1, hBh z hz⟩))⟩
end Go.Proofs.YtmeaklaagglmeaaGreatDoor
