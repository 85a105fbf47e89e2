/- Plain words for memory: a world grown by new blocks (ext), a slice that reads as a list of cells (Rd), and their small lemmas. Conditions: none. -/
import Derived.Test.YtlfhhkgleapamaaGreatDoorRows
import Derived.WalkKit
import Derived.WalkSpells
import Derived.WalkLawsBesides
import Derived.Deep.QuietTactic
import Derived.BigQuiet
import Derived.BigGuardPart
import Derived.Deep.Draws
import Derived.CellFam
import Derived.Lib.Hide
import Derived.Maps.AppendAt
import Derived.Deep.AppendLies
import Derived.RegionTactic
import Derived.OwnWalk
import Derived.ProofKit
import Derived.OpenShut
import Derived.ShutString
import Derived.ChangeOld
import Derived.Lib.SmallJoins
import Derived.Deep.Slices
import Derived.Deep.Fields
import Derived.ChangeSame
set_option linter.unusedVariables false
set_option linter.unusedSimpArgs false
set_option maxRecDepth 100000
set_option maxHeartbeats 16000000
namespace Go.Proofs.YtlfhhkgleapamaaGreatDoor
open Go.RowKit Go.ChangeShapes Go.WideShapes Go.ChangeAt Go.Deep
abbrev OA := Option Addr
def Ks (W : World) : List (Addr × Value) → Prop
  | [] => True
  | [x] => W.cell? x.1 = some x.2
  | x :: y :: r => W.cell? x.1 = some x.2 ∧ Ks W (y :: r)
def Kb (s : Nat) : List (Addr × Value) → Prop
  | [] => True
  | [x] => x.1.block < s
  | x :: y :: r => x.1.block < s ∧ Kb s (y :: r)
theorem ks_of {R W : World} (h : Below R.heap.size R W) : ∀ l, Ks R l → Kb R.heap.size l → Ks W l
  | [], _, _ => trivial
  | [x], h1, h2 => (h.cell (p := x.1) h2).trans h1
  | x :: y :: r, h1, h2 => ⟨(h.cell (p := x.1) h2.1).trans h1.1, ks_of h (y :: r) h1.2 h2.2⟩
theorem kS {R W : World} {l : List (Addr × Value)} (h : Below R.heap.size R W) (h1 : Ks R l := by (try simp only [Ks]); (repeat' apply And.intro) <;> first | assumption | simp [*, go_sem]) (h2 : Kb R.heap.size l := by (try simp only [Kb]); (repeat' apply And.intro) <;> first | assumption | (simp [go_sem]; done) | (simp [go_sem]; omega)) : Ks W l := ks_of h l h1 h2
abbrev oC (A : OA) (n c : Nat) (B : OA) (m d : Nat) (q0 q1 q2 q3 : Int) : Obj := .cells #[.slice A n c, .slice B m d, .int .i64 q0, .int .i64 q1, .int .i64 q2, .int .i64 q3] 27
abbrev oP (I : OA) (n c : Nat) (G : OA) (g h : Nat) (K : OA) (k l : Nat) (a b d : Int) : Obj := .cells #[.slice I n c, .slice G g h, .slice K k l, .int .i64 a, .int .i64 b, .int .i64 d] 35
theorem ep {P : Program} {f : FuncId} {args : Array Value} {w : World} {v : Value} {Q : Ending → World → Prop} (h : Calls P f args w fun e w' => e = .returned v ∧ w = w') (k : Q (.returned v) w) : Calls P f args w Q := h.mono fun e w' hh => by obtain ⟨rfl, rfl⟩ := hh; exact k
theorem Sg {p : Prop} (h : p := by simp [go_sem]) : p := h
theorem Om {p : Prop} (h : p := by omega) : p := h
theorem bsz {p : Prop} (h : p := by first | assumption | (simp [go_sem]; done) | (simp [go_sem]; omega)) : p := h

def ext (w x : World) : World := { heap := w.heap ++ x.heap, tape := w.tape, drawn := x.drawn, os := w.os, output := w.output }
theorem ex {P : Program} {f : FuncId} {args : Array Value} {w : World} {v : Value} {Q : Ending → World → Prop} (h : Calls P f args w fun e w' => e = .returned v ∧ ∃ x, w' = ext w x) (k : ∀ x, Q (.returned v) (ext w x)) : Calls P f args w Q := h.mono fun e w' hh => by obtain ⟨rfl, x, rfl⟩ := hh; exact k x
theorem ext_size (w x : World) : (ext w x).heap.size = w.heap.size + x.heap.size := by simp [ext]
theorem ext_below (w x : World) : Below w.heap.size w (ext w x) :=
 ⟨rfl, rfl, rfl, by rw [ext_size]; omega, fun k hk => by simp [ext, Array.getElem?_append, hk]⟩
theorem ext_ex {w w' : World} (h : Below w.heap.size w w') : ∃ x, w' = ext w x := by
 refine ⟨{ w' with heap := w'.heap.extract w.heap.size w'.heap.size }, ?_⟩;obtain ⟨h1, h2, h3, h4, h5⟩ := h
 cases w with | mk heap tape drawn os output =>
 cases w' with | mk heap' tape' drawn' os' output' =>
 simp only at h1 h2 h3 h4 h5;subst h1 h2 h3;simp only [ext, World.mk.injEq, and_true]
 apply Array.ext_getElem?
 intro i;rw [Array.getElem?_append]
 split
 ·
  rename_i hi
  exact h5 i hi
 ·
  rename_i hi
  rw [Array.getElem?_extract]
  split
  ·
   congr 1; omega
  ·
   exact Array.getElem?_eq_none Om
theorem ext_cell (w x : World) (b o : Nat) (s : Option Nat) (h : b < w.heap.size) : (ext w x).cell? ⟨b, o, s⟩ = w.cell? ⟨b, o, s⟩ := (ext_below w x).cell (p := ⟨b, o, s⟩) h
theorem ext_frozen (w x : World) (b o : Nat) (s : Option Nat) (h : b < w.heap.size) : (ext w x).frozen? ⟨b, o, s⟩ = w.frozen? ⟨b, o, s⟩ := (ext_below w x).frozen (p := ⟨b, o, s⟩) h
def NewLt (w x : World) (b k : Nat) : Prop := ¬ b < w.heap.size + k /\ b < w.heap.size + x.heap.size + k
def NewLe (w x : World) (b k : Nat) : Prop := ¬ b <= w.heap.size + k /\ b <= w.heap.size + x.heap.size + k
theorem ext_lt (w x : World) (b : Nat) : (b < (ext w x).heap.size) = (b < w.heap.size ∨ NewLt w x b 0) := by
 rw [ext_size, NewLt]; apply propext; constructor <;> intro h <;> omega
theorem ext_lek0 (w x : World) (b : Nat) : (b <= (ext w x).heap.size) = (b <= w.heap.size ∨ NewLe w x b 0) := by
 rw [ext_size, NewLe]; apply propext; constructor <;> intro h <;> omega
theorem ext_cell_drew (w x : World) (b o : Nat) (s : Option Nat) (h : b < w.heap.size) : (ext w.drew x).cell? ⟨b, o, s⟩ = w.cell? ⟨b, o, s⟩ := (ext_below w x).cell (p := ⟨b, o, s⟩) h
theorem ext_le (w x : World) : w.heap.size <= (ext w x).heap.size := (ext_below w x).size
theorem ext_self (w : World) : w = ext w { w with heap := #[] } := by cases w; simp [ext]
attribute [go_sem] ext_cell ext_frozen ext_lt ext_lek0 ext_cell_drew

section
variable {a w : World}
theorem bExt (h : Below a.heap.size a w) (x : World) : Below a.heap.size a (ext w x) := h.trans ((ext_below w x).mono h.size)
theorem bAlloc (h : Below a.heap.size a w) (o : Obj) : Below a.heap.size a (w.alloc o) := h.alloc h.size o
theorem bDrew (h : Below a.heap.size a w) : Below a.heap.size a w.drew := h.drew
theorem bDrewN (h : Below a.heap.size a w) (n : Nat) : Below a.heap.size a (w.drewN n) := ⟨h.os, h.tape, h.output, h.size, h.block⟩
theorem bSet (h : Below a.heap.size a w) {p : Addr} (hp : a.heap.size <= p.block) (u : Value) : Below a.heap.size a (w.setCell p u) := h.setCell hp u
theorem bL {n : Nat} {R W : World} (h : Below n R W := by repeat first | exact .refl _ _ | assumption | refine bExt ?_ _ | refine bAlloc ?_ _ | refine bDrewN ?_ _ | refine bDrew ?_ | refine bSet ?_ (by first | exact Nat.le_refl _ | omega | (simp <;> omega)) _) : Below n R W := h
end

def Rd (s : Nat) (w : World) (A : OA) (n : Nat) (xs : List Value) : Prop :=
 xs.length = n * s /\ (0 < n -> ∃ b off, A = some ⟨b, off, none⟩ /\ b < w.heap.size /\ ∀ j u, xs[j]? = some u -> w.cell? ⟨b, off + j, none⟩ = some u)
def RdI (w : World) (A : OA) (n : Nat) (l : List Int) : Prop := Rd 1 w A n (l.map (Value.int .i64))

section
variable {s n : Nat} {w w' : World} {A : OA} {xs : List Value} {l : List Int}
theorem Rd.below (h : Rd s w A n xs) (hb : Below w.heap.size w w') : Rd s w' A n xs := by
 refine ⟨h.1, fun hn => ?_⟩;obtain ⟨b, off, e, hlt, hc⟩ := h.2 hn;exact ⟨b, off, e, Nat.lt_of_lt_of_le hlt hb.size, fun j u hu => (hb.cell (p := ⟨b, off + j, none⟩) hlt).trans (hc j u hu)⟩
theorem Rd.take_ (h : Rd s w A n xs) (k : Nat) (hk : k <= n) : Rd s w A k (xs.take (k * s)) := by
 refine ⟨?_, fun hn => ?_⟩
 ·
  rw [List.length_take, h.1];exact Nat.min_eq_left (Nat.mul_le_mul_right s hk)
 ·
  obtain ⟨b, off, e, hlt, hc⟩ := h.2 Om;refine ⟨b, off, e, hlt, fun j u hu => hc j u ?_⟩;rw [List.getElem?_take] at hu
  split at hu
  ·
   exact hu
  ·
   cases hu
theorem RdI.below (h : RdI w A n l) (hb : Below w.heap.size w w') : RdI w' A n l := Rd.below h hb
theorem RdI.len (h : RdI w A n l) : l.length = n := by have := h.1; simpa using this
theorem RdI.open_ (h : RdI w A n l) (hn : 0 < n) : ∃ b off, A = some ⟨b, off, none⟩ /\ b < w.heap.size /\ ∀ j, j < n -> w.cell? ⟨b, off + j, none⟩ = some (.int .i64 (l.getD j 0)) := by
 have hl := h.len;obtain ⟨b, off, e, hlt, hc⟩ := h.2 hn;refine ⟨b, off, e, hlt, fun j hj => hc j _ ?_⟩;have hj' : j < l.length := Om;simp [List.getD, hj']
theorem RdI.take_ (h : RdI w A n l) (k : Nat) (hk : k <= n) : RdI w A k (l.take k) := by
 have := Rd.take_ h k hk;unfold RdI;rw [List.map_take]
 simpa using this
theorem RdI.nil_ : RdI w A 0 [] := ⟨by simp, fun h => absurd h Om⟩
end

def blkOf (A : OA) : Option Nat := A.map (·.block)
theorem ownBlock_slice (A : OA) (n c : Nat) : (Value.slice A n c).ownBlock = blkOf A := by cases A <;> rfl

def Ow (e s base : Nat) (w : World) (A : OA) (n c : Nat) (xs : List Value) : Prop := w.ownsRow base e s (.slice A n c) n xs

section
variable {e s base base' n c : Nat} {w w' : World} {A : OA} {xs : List Value}
theorem grownBy_of_below {row : Option Nat} (h : Below w.heap.size w w') : w.grownBy w' row := ⟨h.os, h.tape, h.output, h.size, fun k hk _ => h.block k hk⟩
theorem gDrewN {row : Option Nat} (h : w.grownBy w' row) (k : Nat) : w.grownBy (w'.drewN k) row := ⟨h.os, h.tape, h.output, h.size, h.block⟩
theorem Ow.len (h : Ow e s base w A n c xs) : xs.length = n * s := h.1
theorem Ow.below (h : Ow e s base w A n c xs) (hb : Below w.heap.size w w') : Ow e s base w' A n c xs := by
 refine World.ownsRow.kept h (grownBy_of_below (row := none) hb) ?_
 cases hv : (Value.slice A n c).ownBlock <;> simp
theorem Ow.kept {row : Option Nat} (h : Ow e s base w A n c xs) (hg : w.grownBy w' row) (hne : blkOf A = none ∨ blkOf A ≠ row) : Ow e s base w' A n c xs :=
 World.ownsRow.kept h hg (by rw [ownBlock_slice]; exact hne)
theorem Ow.mono (h : Ow e s base w A n c xs) (hb : base' <= base) : Ow e s base' w A n c xs := by
 refine ⟨h.1, ?_⟩
 rcases h.2 with h2 | ⟨g, cap, cur, hv, hg, r⟩
 ·
  exact .inl h2
 ·
  exact .inr ⟨g, cap, cur, hv, Nat.le_trans hb hg, r⟩
theorem Ow.nil_ : Ow e s base w none 0 0 [] := World.ownsRow_nil w base e s
theorem Ow.cap_ (h : Ow e s base w A n c xs) : n <= c /\ c <= maxLen := by
 rcases h.2 with ⟨h2, _⟩ | ⟨g, cap, cur, hv, _, _, h3, h4, _⟩
 ·
  simp at h2; obtain ⟨rfl, rfl, rfl⟩ := h2; simp [maxLen]
 ·
  simp at hv; obtain ⟨_, rfl⟩ := hv; exact ⟨h3, h4⟩
theorem Ow.form_ (h : Ow e s base w A n c xs) (hn : 0 < n) : ∃ g, A = some ⟨g, 0, none⟩ /\ base <= g /\ g < w.heap.size := by
 rcases h.2 with ⟨_, h2⟩ | ⟨g, cap, cur, hv, hb, hg, _⟩
 ·
  omega
 ·
  simp at hv;exact ⟨g, hv.1, hb, (Array.getElem?_eq_some_iff.1 hg).1⟩
theorem Ow.blk (h : Ow e s base w A n c xs) {g : Nat} (hA : blkOf A = some g) : base <= g /\ g < w.heap.size :=
 World.ownsRow.lt h g (by rw [ownBlock_slice]; exact hA)
theorem Ow.rd (h : Ow e s base w A n c xs) : Rd s w A n xs := by
 refine ⟨h.1, fun hn => ?_⟩;obtain ⟨g, rfl, hb, hlt⟩ := h.form_ hn;refine ⟨g, 0, rfl, hlt, fun j u hu => ?_⟩;have := World.ownsRow.cells h (g := g) rfl j u hu;rw [Nat.zero_add];have hadd : (⟨g, 0, none⟩ : Addr).add j = ⟨g, j, none⟩ := by unfold Addr.add; split <;> simp_all
 rw [hadd] at this;exact this
theorem below_grown {R : World} {row : Option Nat} (h : Below R.heap.size R w) (hg : w.grownBy w' row) (hr : ∀ k, row = some k -> R.heap.size <= k) : Below R.heap.size R w' := h.grown hg h.size hr
end

theorem int_info : (Tryz.prog.info? 3).map (fun i => (i.zero, i.size, i.bytes)) = some (some (.int .i64 0), 1, 8) := by kernel_rfl

def OwI (base : Nat) (w : World) (A : OA) (n c : Nat) (l : List Int) : Prop := Ow 3 1 base w A n c (l.map (Value.int .i64))
section
variable {base base' n c : Nat} {w w' : World} {A : OA} {l : List Int}
theorem OwI.len (h : OwI base w A n c l) : l.length = n := by have := Ow.len h; simpa using this
theorem OwI.below (h : OwI base w A n c l) (hb : Below w.heap.size w w') : OwI base w' A n c l := Ow.below h hb
theorem OwI.kept {row : Option Nat} (h : OwI base w A n c l) (hg : w.grownBy w' row) (hne : blkOf A = none ∨ blkOf A ≠ row) : OwI base w' A n c l := Ow.kept h hg hne
theorem OwI.mono (h : OwI base w A n c l) (hb : base' <= base) : OwI base' w A n c l := Ow.mono h hb
theorem OwI.nil_ : OwI base w none 0 0 [] := Ow.nil_
theorem OwI.rd (h : OwI base w A n c l) : RdI w A n l := Ow.rd h
theorem OwI.blk (h : OwI base w A n c l) {g : Nat} (hA : blkOf A = some g) : base <= g /\ g < w.heap.size := Ow.blk h hA
theorem OwI.lit_ {R w : World} (hR : Below R.heap.size R w) (l : List Int) (hl : l.length <= maxLen) (cs : Array Value) (hcs : cs.toList = l.map (Value.int .i64)) :
  OwI R.heap.size (w.alloc (.cells cs 3)) (some ⟨w.heap.size, 0, none⟩) l.length l.length l := by
 have hs : cs.size = l.length * 1 := by rw [<- Array.length_toList, hcs]; simp
 have := World.ownsRow_lit (base := R.heap.size) (e := 3) (size := 1) w cs l.length hR.size hl hs;rw [hcs] at this;exact this
end

theorem Ow.stored_ {e s base n c g : Nat} {w : World} {xs : List Value} (h : Ow e s base w (some ⟨g, 0, none⟩) n c xs) (j : Nat) (u : Value) :
  Ow e s base (w.setCell ⟨g, j, none⟩ u) (some ⟨g, 0, none⟩) n c (xs.set j u) /\ w.grownBy (w.setCell ⟨g, j, none⟩ u) (some g) := World.ownsRow.stored h j u
theorem Ow.cell_ {e s base n c g : Nat} {w : World} {xs : List Value} (h : Ow e s base w (some ⟨g, 0, none⟩) n c xs) (j : Nat) (hj : j < n * s) : w.cell? ⟨g, j, none⟩ = xs[j]? := World.ownsRow.cellAt h j hj
theorem Ow.frozen_ {e s base n c g : Nat} {w : World} {xs : List Value} (h : Ow e s base w (some ⟨g, 0, none⟩) n c xs) (j : Nat) : w.frozen? ⟨g, j, none⟩ = false := World.ownsRow.frozenAt h j
theorem OwI.stored_ {base n c g : Nat} {w : World} {l : List Int} (h : OwI base w (some ⟨g, 0, none⟩) n c l) (j : Nat) (u : Int) :
  OwI base (w.setCell ⟨g, j, none⟩ (.int .i64 u)) (some ⟨g, 0, none⟩) n c (l.set j u) /\ w.grownBy (w.setCell ⟨g, j, none⟩ (.int .i64 u)) (some g) := by
 have := Ow.stored_ h j (.int .i64 u);refine ⟨?_, this.2⟩;unfold OwI;rw [List.map_set];exact this.1
theorem OwI.cell_ {base n c g : Nat} {w : World} {l : List Int} (h : OwI base w (some ⟨g, 0, none⟩) n c l) (j : Nat) (hj : j < n) : w.cell? ⟨g, j, none⟩ = some (.int .i64 (l[j]?.getD 0)) := by
 have hl := h.len;rw [Ow.cell_ h j Om];simp [show j < l.length by omega]
theorem OwI.frozen_ {base n c g : Nat} {w : World} {l : List Int} (h : OwI base w (some ⟨g, 0, none⟩) n c l) (j : Nat) : w.frozen? ⟨g, j, none⟩ = false := Ow.frozen_ h j
theorem OwI.form_ {base n c : Nat} {w : World} {A : OA} {l : List Int} (h : OwI base w A n c l) (hn : 0 < n) : ∃ g, A = some ⟨g, 0, none⟩ /\ base <= g /\ g < w.heap.size := Ow.form_ h hn

section
variable {ops : Array Oper} {rest : List Oper} {o : Oper} {a : Act} {Q : Exit -> Act -> World -> Prop}
theorem wpl_push_int (R W : World) (v : Int) (gx : Nat) (hgx : gx = W.heap.size) (hgd : o.guard = none) (s x : Operand) (ho : o.op = .call { callee := .builtin .append, args := #[s, x], argTypes := #[25, 25] })
  (A : OA) (n c : Nat) (l : List Int) (hs : a.eval s = .slice A n c) {W₀ : World} (hown₀ : OwI R.heap.size W₀ A n c l) (hW₀ : Below W₀.heap.size W₀ W) (hR : Below R.heap.size R W)
  (hx : a.eval x = .slice (some ⟨gx, 0, none⟩) 1 1) (hn : n <= 1099511627776)
  (h : ∀ A' c' y, OwI R.heap.size (ext R y) A' (n + 1) c' (l ++ [v]) -> W.grownBy (ext R y) (blkOf A) -> (blkOf A' = blkOf A ∨ ∃ g, blkOf A' = some g /\ W.heap.size < g) -> wpList Tryz.prog ops Q rest (a.put o.dst (.slice A' (n + 1) c')) (ext R y)) :
  wpList Tryz.prog ops Q (o :: rest) a (W.alloc (.cells #[.int .i64 v] 3)) := by
 subst hgx;have hown := hown₀.below hW₀;obtain ⟨i0, hi0, hz0, hz1, hz2⟩ := info_parts int_info;have hRw : Below R.heap.size R (W.alloc (.cells #[.int .i64 v] 3)) := bAlloc hR _;have hown1 := hown.below (bAlloc (Below.refl W.heap.size W) (.cells #[.int .i64 v] 3));refine wpList_append_own_at _ hgd s x _ ho R.heap.size 3 i0 (.int .i64 0) 1 8 Tryz.underlying25 hi0 hz0 hz1 hz2 rfl Om (.slice A n c) n (l.map (Value.int .i64)) hs hown1
  ⟨W.heap.size, 0, none⟩ 1 1 [.int .i64 v] hx rfl ?_ (by simp [Value.oneCell']) (by simp only [maxLen]; omega) Om hRw.size ?_
 ·
  intro j u hu
  match j with
  | 0 => simp at hu; subst hu; simp [Addr.add, go_sem]
  | j + 1 => simp at hu
 ·
  intro v' w' hown' hg _ hd;rw [ownBlock_slice] at hg hd;have hBw : Below R.heap.size R w' := below_grown hRw hg (fun k hk => (hown1.blk hk).1);obtain ⟨y, rfl⟩ := ext_ex hBw
  rcases hown'.2 with ⟨_, h0⟩ | ⟨g', cap, cur, rfl, hrest⟩
  ·
   omega
  ·
   rw [ownBlock_slice] at hd;refine h _ _ y ?_ ((World.grownBy_alloc W _ _).trans hg) ?_
   ·
    have : (l ++ [v]).map (Value.int .i64) = l.map (Value.int .i64) ++ [.int .i64 v] := by simp
    unfold OwI Ow;rw [this];exact hown'
   ·
    rcases hd with hd | hd
    ·
     exact .inl hd
    ·
     exact .inr ⟨_, hd, by simp⟩
end

def RetI (w : World) (l : List Int) (e : Ending) (w' : World) : Prop := ∃ A n c x, e = .returned (.slice A n c) /\ w' = ext w x /\ OwI w.heap.size (ext w x) A n c l
theorem RetI.mk_ {w W : World} {base : Nat} {A : OA} {n c : Nat} {l : List Int} (ho : OwI base W A n c l) (hbase : w.heap.size <= base) (hb : Below w.heap.size w W) : RetI w l (.returned (.slice A n c)) W := by
 obtain ⟨x, rfl⟩ := ext_ex hb;exact ⟨A, n, c, x, rfl, rfl, ho.mono hbase⟩
def RetIB (w : World) (l : List Int) (ok : Bool) (e : Ending) (w' : World) : Prop := ∃ A n c x, e = .returned (.tuple #[.slice A n c, .bool ok]) /\ w' = ext w x /\ OwI w.heap.size (ext w x) A n c l
theorem RetIB.mk_ {w W : World} {base : Nat} {A : OA} {n c : Nat} {l : List Int} {ok : Bool} (ho : OwI base W A n c l) (hbase : w.heap.size <= base) (hb : Below w.heap.size w W) : RetIB w l ok (.returned (.tuple #[.slice A n c, .bool ok])) W := by
 obtain ⟨x, rfl⟩ := ext_ex hb;exact ⟨A, n, c, x, rfl, rfl, ho.mono hbase⟩
section
variable {α : Type} (d : α)
theorem take_succ_getD (l : List α) (k : Nat) (h : k < l.length) : l.take (k + 1) = l.take k ++ [l[k]?.getD d] := by
 rw [List.take_succ_eq_append_getElem h]; simp [h]
theorem getD_mem (l : List α) (k : Nat) (h : k < l.length) : l[k]?.getD d ∈ l := by simp [h]
theorem any_hit {P : α -> Bool} {l : List α} {k : Nat} (h : k < l.length) (hp : P (l[k]?.getD d) = true) : l.any P = true := List.any_eq_true.2 ⟨_, getD_mem d l k h, hp⟩
theorem any_step {P : α -> Bool} {l : List α} {k : Nat} (h : k < l.length) (ht : (l.take k).any P = false) (hp : P (l[k]?.getD d) = false) : (l.take (k + 1)).any P = false := by
 rw [take_succ_getD d l k h, List.any_append, ht]; simp only [List.any_cons, List.any_nil, Bool.or_false, Bool.false_or]; exact hp
theorem any_end {P : α -> Bool} {l : List α} {k : Nat} (ht : (l.take k).any P = false) (h : l.length <= k) : l.any P = false := by
 rwa [List.take_of_length_le h] at ht
theorem all_miss {P : α -> Bool} {l : List α} {k : Nat} (h : k < l.length) (hp : P (l[k]?.getD d) = false) : l.all P = false := by
 rw [Bool.eq_false_iff]; intro hh; have := List.all_eq_true.1 hh _ (getD_mem d l k h); rw [hp] at this; cases this
theorem all_step {P : α -> Bool} {l : List α} {k : Nat} (h : k < l.length) (ht : (l.take k).all P = true) (hp : P (l[k]?.getD d) = true) : (l.take (k + 1)).all P = true := by
 rw [take_succ_getD d l k h, List.all_append, ht]; simp only [List.all_cons, List.all_nil, Bool.and_true]; exact hp
theorem all_end {P : α -> Bool} {l : List α} {k : Nat} (ht : (l.take k).all P = true) (h : l.length <= k) : l.all P = true := by
 rwa [List.take_of_length_le h] at ht
end
theorem ret_int {a b : Int} (h : a = b) : Ending.returned (.int .i64 a) = .returned (.int .i64 b) := by rw [h]
theorem ret_bool {a b : Bool} (h : a = b) : Ending.returned (.bool a) = .returned (.bool b) := by rw [h]
section
variable {α : Type} (l : List α) (k n : Nat) (z : α)
end
def firstIdx (p : Nat -> Bool) (n : Nat) : Nat × Bool := match (List.range n).find? p with
 | some i => (i, true)
 | none => (0, false)
theorem firstIdx_hit {p : Nat -> Bool} {n k : Nat} (hk : k < n) (hb : ∀ j, j < k -> p j = false) (h : p k = true) : firstIdx p n = (k, true) := by
 have : (List.range n).find? p = some k := by
  rw [List.find?_range_eq_some];exact ⟨h, by simpa using hk, fun j hj => by rw [hb j hj]; rfl⟩
 rw [firstIdx, this]
theorem firstIdx_none {p : Nat -> Bool} {n : Nat} (h : ∀ j, j < n -> p j = false) : firstIdx p n = (0, false) := by
 have : (List.range n).find? p = none := by
  rw [List.find?_eq_none];intro x hx;rw [h x (by simpa using hx)]
  simp
 rw [firstIdx, this]

def inB (a lo hi : Int) : Bool := decide (lo <= a) && decide (a <= hi)
theorem inB_iff {a lo hi : Int} : inB a lo hi = true ↔ lo <= a /\ a <= hi := by simp [inB]
theorem l1In_any (a lo hi : Int) (w : World) :
  Calls Tryz.prog 60 #[.int .i64 a, .int .i64 lo, .int .i64 hi] w fun e w' => e = .returned (.bool (inB a lo hi)) /\ w = w' := by
 unfold inB;by_cases h1 : lo <= a <;> by_cases h2 : a <= hi
 all_goals
  go_enter Tryz.func60, Tryz.ntmps60;go_wp2;go_ret;simp [h1, h2]
theorem within_any (a lo hi : Int) (w : World) :
  Calls Tryz.prog 64 #[.int .i64 a, .int .i64 lo, .int .i64 hi] w fun e w' => e = .returned (.bool (inB a lo hi)) /\ w = w' := by
 unfold inB;by_cases h1 : lo <= a <;> by_cases h2 : a <= hi
 all_goals
  go_enter Tryz.func64, Tryz.ntmps64;go_wp2;go_ret;simp [h1, h2]
theorem l1Most_any (a b : Int) (w : World) :
  Calls Tryz.prog 143 #[.int .i64 a, .int .i64 b] w fun e w' => e = .returned (.int .i64 (max a b)) /\ w = w' := by
 by_cases h1 : b < a
 all_goals
  go_enter Tryz.func143, Tryz.ntmps143;go_wp2;go_ret;exact ⟨congrArg (fun z => Ending.returned (.int .i64 z)) Om, rfl⟩
theorem l1Least_any (a b : Int) (w : World) :
  Calls Tryz.prog 124 #[.int .i64 a, .int .i64 b] w fun e w' => e = .returned (.int .i64 (min a b)) /\ w = w' := by
 by_cases h1 : a < b
 all_goals
  go_enter Tryz.func124, Tryz.ntmps124;go_wp2;go_ret;exact ⟨congrArg (fun z => Ending.returned (.int .i64 z)) Om, rfl⟩

theorem laidOutAll : laidOutB Tryz.prog = true := by kernel_rfl

def tsOk (P : Program) (ts : List TypeId) : Prop := (ts.all fun t => P.readableRec t && decide (t < P.types.size)) = true
theorem trodAll_below {P : Program} (hl : laidOutB P = true) {H : Type} {enc : TypeId × Value -> H} {W W' : World} (hb : Below W.heap.size W W') : ∀ (ts : List TypeId) (vs : List Value) (ds : List (DataW H)) (ps : List MemPlace), tsOk P ts ->
  DataW.TrodAll enc P W 0 (fun _ => true) true ts vs ds ps -> DataW.TrodAll enc P W' 0 (fun b => decide (b < W.heap.size)) true ts vs ds ps := by
 intro ts
 induction ts with
 | nil =>
  intro vs ds ps _ h
  cases vs <;> cases ds <;> first | exact h | exact h.elim
 | cons t ts ih =>
  intro vs ds ps hts h
  cases vs with
  | nil => exact h.elim
  | cons v vs =>
   cases ds with
   | nil => exact h.elim
   | cons d ds =>
    obtain ⟨p, q, h1, h2, e⟩ := h;simp only [tsOk, List.all_cons, Bool.and_eq_true, decide_eq_true_eq] at hts;have lt1 : ∀ x ∈ p, x.block < W.heap.size := by obtain ⟨m, hm⟩ := h1; exact DataW.trod_lt m _ _ _ hm
    exact ⟨p, q, Below.trod hl hts.1.1 hts.1.2 h1 hb lt1, ih _ _ _ hts.2 h2, e⟩

section
section
variable {H : Type} {enc : TypeId × Value -> H} {P : Program} {w : World} {base : Nat} {spare : Nat -> Bool} {held : Bool}
end

end
theorem OwI.cap_ {base n c : Nat} {w : World} {A : OA} {l : List Int} (h : OwI base w A n c l) : n <= c /\ c <= maxLen := Ow.cap_ h
section
variable {e s base n c e' s' n' c' : Nat} {W W' : World} {A B : OA} {xs ys : List Value}
end
section
variable {P : Program} (w : World)
theorem run_append_of_nil (base : Nat) (t ty e : TypeId) (i : TypeInfo) (size : Nat) (ht : P.underlying t = some (.slice e)) (hi : P.info? e = some i)
  (v : Value) (n : Nat) (xs : List Value) (hown : w.ownsRow base e size v n xs) (c : Nat) : (Builtin.append_ #[t, t] ty #[v, .slice none 0 c]).run P w = .ok v w := by
 rcases hown.2 with ⟨rfl, rfl⟩ | ⟨g, cap, cur, rfl, _, _, hnc, _⟩
 ·
  simp [Builtin.append_, run_underlying ht, sizeOf, typeInfo, hi, Builtin.lenOf, Builtin.firstCells]
 ·
  simp [Builtin.append_, run_underlying ht, sizeOf, typeInfo, hi, Builtin.lenOf, Builtin.firstCells, hnc, storeCells]
theorem run_append_rd (base : Nat) (t ty e : TypeId) (i : TypeInfo) (z : Value) (size bytes : Nat) (ht : P.underlying t = some (.slice e)) (hi : P.info? e = some i) (hz : i.zero = some z)
  (hsize : i.size = size) (hby : i.bytes = bytes) (hzs : z.cells.size = size) (hsz : 0 < size)
  (v : Value) (n : Nat) (xs : List Value) (hown : w.ownsRow base e size v n xs)
  (A : OA) (m c : Nat) (news : List Value) (hr : Rd size w A m news) (h1 : ∀ u ∈ news, u.oneCell' = true)
  (h63 : n + m <= maxLen) (hbytes : (n + m) * bytes <= 140737488355328) (hbase : base <= w.heap.size) :
  ∃ v' w', (Builtin.append_ #[t, t] ty #[v, .slice A m c]).run P w = .ok v' w' /\ w'.ownsRow base e size v' (n + m) (xs ++ news) /\ w.grownBy w' v.ownBlock /\
   (v'.ownBlock = v.ownBlock ∨ v'.ownBlock = some w.heap.size) := by
 rcases A with _ | ad
 ·
  have hm : m = 0 := by
   rcases Nat.eq_zero_or_pos m with h0 | h0
   ·
    exact h0
   ·
    obtain ⟨b, off, h, _⟩ := hr.2 h0
    cases h
  subst hm;have hn : news = [] := List.eq_nil_of_length_eq_zero (by simpa using hr.1);subst hn;exact ⟨v, w, run_append_of_nil w base t ty e i size ht hi v n xs hown c, by simpa using hown, World.grownBy.refl w _, .inl rfl⟩
 ·
  have hcells : ∀ j u, news[j]? = some u -> w.cell? (ad.add j) = some u := by
   intro j u hu
   rcases Nat.eq_zero_or_pos m with h0 | h0
   ·
    subst h0;have hn : news = [] := List.eq_nil_of_length_eq_zero (by simpa using hr.1);subst hn;simp at hu
   ·
    obtain ⟨b, off, h, _, hc⟩ := hr.2 h0;injection h with h;subst h;have hadd : (⟨b, off, none⟩ : Addr).add j = ⟨b, off + j, none⟩ := by unfold Addr.add; split <;> simp_all
    rw [hadd];exact hc j u hu
  obtain ⟨v', w', hrun, h2, h3, _, h5⟩ := run_append_own_at (P := P) w base t ty e i z size bytes ht hi hz hsize hby hzs hsz v n xs hown ad m c news hr.1 hcells h1 h63 hbytes hbase;exact ⟨v', w', hrun, h2, h3, h5⟩
end
theorem wpl_app_int {ops : Array Oper} {rest : List Oper} {o : Oper} {a : Act} {Q : Exit -> Act -> World -> Prop} (R : World) {W : World} (hgd : o.guard = none) (s x : Operand) (ho : o.op = .call { callee := .builtin .append, args := #[s, x], argTypes := #[25, 25] })
  (A : OA) (n c : Nat) (l : List Int) (hs : a.eval s = .slice A n c) {W₀ : World} (hown₀ : OwI R.heap.size W₀ A n c l) (hW₀ : Below W₀.heap.size W₀ W) (hR : Below R.heap.size R W)
  (B : OA) (m d : Nat) (r : List Int) (hx : a.eval x = .slice B m d) {W₁ : World} (hr₁ : RdI W₁ B m r) (hW₁ : Below W₁.heap.size W₁ W) (hn : n + m <= 1099511627776)
  (h : ∀ A' c' y, OwI R.heap.size (ext R y) A' (n + m) c' (l ++ r) -> W.grownBy (ext R y) (blkOf A) -> (blkOf A' = blkOf A ∨ blkOf A' = some W.heap.size) -> wpList Tryz.prog ops Q rest (a.put o.dst (.slice A' (n + m) c')) (ext R y)) :
  wpList Tryz.prog ops Q (o :: rest) a W := by
 have hown := hown₀.below hW₀;have hr := hr₁.below hW₁;obtain ⟨i0, hi0, hz0, hz1, hz2⟩ := info_parts int_info;obtain ⟨v', w', hrun, h2, h3, h4⟩ := run_append_rd (P := Tryz.prog) W R.heap.size 25 o.type 3 i0 (.int .i64 0) 1 8 Tryz.underlying25 hi0 hz0 hz1 hz2 rfl Om (.slice A n c) n (l.map (Value.int .i64)) hown B m d (r.map (Value.int .i64)) hr
  (by intro u hu; simp only [List.mem_map] at hu; obtain ⟨z, _, rfl⟩ := hu; rfl) (by simp only [maxLen]; omega) Om hR.size
 refine wpList_plain hgd fun K hK => ?_
 unfold Oper.wp execOp;simp only [ho, resolve, invoke, builtin, Sem.run_bind, Sem.run_pure, Result.andThen_ok, List.map_toArray, List.map_cons, List.map_nil, hs, hx, hrun];rw [ownBlock_slice] at h3 h4;have hBw : Below R.heap.size R w' := below_grown hR h3 (fun k hk => (hown.blk hk).1);obtain ⟨y, rfl⟩ := ext_ex hBw;have hm : l.map (Value.int .i64) ++ r.map (Value.int .i64) = (l ++ r).map (Value.int .i64) := by simp
 rw [hm] at h2
 rcases h2.2 with ⟨hv, h0⟩ | ⟨g', cap, cur, hv, hrest⟩
 ·
  subst hv;rw [ownBlock_slice] at h4;have e : Value.slice none 0 0 = .slice none (n + m) 0 := by rw [h0]
  rw [e] at h2 ⊢;exact hK _ _ (h none 0 y h2 h3 h4)
 ·
  subst hv;rw [ownBlock_slice] at h4;exact hK _ _ (h _ _ y h2 h3 h4)
def allB (l : List Int) (lo hi : Int) : Bool := l.all fun x => inB x lo hi
theorem allB_of {l : List Int} {lo hi : Int} (h : allB l lo hi = true) : ∀ x ∈ l, lo <= x /\ x <= hi := fun x hx => inB_iff.1 (List.all_eq_true.1 h x hx)
theorem l1All_any (w : World) (A : OA) (n c : Nat) (l : List Int) (lo hi : Int) (ha : RdI w A n l) (hn : n <= 1099511627776) :
  Calls Tryz.prog 99 #[.slice A n c, .int .i64 lo, .int .i64 hi] w fun e w' => e = .returned (.bool (allB l lo hi)) /\ w = w' := by
 have Hl := Lib.hid ha.len;unfold allB;go_enter Tryz.func99, Tryz.ntmps99;go_wp2
 go_loop [8, 11] (fun _ i => ∃ k : Nat, k <= n /\ i = .int .i64 k /\ Hid ((l.take k).all (fun x => inB x lo hi) = true)) (fun _ i => n - (intOf i).toNat)
 case atStart => exact ⟨0, Om, rfl, rfl⟩
 case round =>
  obtain ⟨k, hk, rfl, HT⟩ := hrel;by_cases hlt : k < n
  ·
   obtain ⟨b, off, rfl, hb, hc⟩ := ha.open_ Om;go_wp2_with (go_at_call 60; (with_reducible refine ep (l1In_any _ _ _ _) ?_))
   ·
    have hh : (!inB (l[k]?.getD 0) lo hi) = true := by assumption
    go_ret;exact ⟨ret_bool (all_miss 0 (by rw [Hl.out]; exact hlt) (by simpa using hh)).symm, rfl⟩
   ·
    have hh : (!inB (l[k]?.getD 0) lo hi) = false := by assumption
    go_round
    case rel => exact ⟨k + 1, Om, by go_num, all_step 0 (by rw [Hl.out]; exact hlt) HT.out (by simpa using hh)⟩
    case measure => simp [intOf]; omega
  ·
   go_wp2;go_ret;exact ⟨ret_bool (all_end HT.out (by rw [Hl.out]; omega)).symm, rfl⟩
theorem allWithin_any (w : World) (A : OA) (n c : Nat) (l : List Int) (lo hi : Int) (ha : RdI w A n l) (hn : n <= 1099511627776) :
  Calls Tryz.prog 84 #[.slice A n c, .int .i64 lo, .int .i64 hi] w fun e w' => e = .returned (.bool (allB l lo hi)) /\ w = w' := by
 have Hl := Lib.hid ha.len;unfold allB;go_enter Tryz.func84, Tryz.ntmps84;go_wp2
 go_loop [8, 11] (fun _ i => ∃ k : Nat, k <= n /\ i = .int .i64 k /\ Hid ((l.take k).all (fun x => inB x lo hi) = true)) (fun _ i => n - (intOf i).toNat)
 case atStart => exact ⟨0, Om, rfl, rfl⟩
 case round =>
  obtain ⟨k, hk, rfl, HT⟩ := hrel;by_cases hlt : k < n
  ·
   obtain ⟨b, off, rfl, hb, hc⟩ := ha.open_ Om;go_wp2_with (go_at_call 64; (with_reducible refine ep (within_any _ _ _ _) ?_))
   ·
    have hh : (!inB (l[k]?.getD 0) lo hi) = true := by assumption
    go_ret;exact ⟨ret_bool (all_miss 0 (by rw [Hl.out]; exact hlt) (by simpa using hh)).symm, rfl⟩
   ·
    have hh : (!inB (l[k]?.getD 0) lo hi) = false := by assumption
    go_round
    case rel => exact ⟨k + 1, Om, by go_num, all_step 0 (by rw [Hl.out]; exact hlt) HT.out (by simpa using hh)⟩
    case measure => simp [intOf]; omega
  ·
   go_wp2;go_ret;exact ⟨ret_bool (all_end HT.out (by rw [Hl.out]; omega)).symm, rfl⟩
theorem l1Own_any (w : World) (A : OA) (n c : Nat) (l : List Int) (ha : RdI w A n l) (hn : n <= 1099511627776) :
  Calls Tryz.prog 175 #[.slice A n c] w (RetI w l) := by
 have o0 := OwI.lit_ (Below.refl w.heap.size w) [] (by simp [maxLen]) #[] rfl;have hn0 : 0 + n <= 1099511627776 := Om;go_enter Tryz.func175, Tryz.ntmps175;go_wp2_with (at_builtin; (refine wpl_app_int w rfl _ _ rfl (some ⟨w.heap.size, 0, none⟩) 0 0 [] rfl o0 ?_ ?_ A n c l rfl ha ?_ hn0 ?_); exact bL; exact bL; exact bL; intro A' c' y ho hg hd)
 go_ret;exact RetI.mk_ (by simpa using ho) (Nat.le_refl _) (ext_below _ _)
theorem copyInts_any (w : World) (A : OA) (n c : Nat) (l : List Int) (ha : RdI w A n l) (hn : n <= 1099511627776) :
  Calls Tryz.prog 204 #[.slice A n c] w (RetI w l) := by
 have o0 := OwI.lit_ (Below.refl w.heap.size w) [] (by simp [maxLen]) #[] rfl;have hn0 : 0 + n <= 1099511627776 := Om;go_enter Tryz.func204, Tryz.ntmps204;go_wp2_with (at_builtin; (refine wpl_app_int w rfl _ _ rfl (some ⟨w.heap.size, 0, none⟩) 0 0 [] rfl o0 ?_ ?_ A n c l rfl ha ?_ hn0 ?_); exact bL; exact bL; exact bL; intro A' c' y ho hg hd)
 go_ret;exact RetI.mk_ (by simpa using ho) (Nat.le_refl _) (ext_below _ _)
end Go.Proofs.YtlfhhkgleapamaaGreatDoor
