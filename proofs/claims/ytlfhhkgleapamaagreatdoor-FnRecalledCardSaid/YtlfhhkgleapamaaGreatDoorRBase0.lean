/- Plain words for memory: a world grown by new blocks (ext), a slice that reads as a list of cells (Rd), and their small lemmas. Conditions: none. -/
import Derived.Test.YtlfhhkgleapamaaGreatDoorRows
import Derived.WalkKit
import Derived.WalkSpells
import Derived.WalkLawsBesides
import Derived.Deep.QuietTactic
import Derived.BigQuiet
import Derived.BigGuardPart
import Derived.Deep.Draws
import Derived.CellFam
import Derived.Lib.Hide
import Derived.Maps.AppendAt
import Derived.Deep.AppendLies
import Derived.RegionTactic
import Derived.OwnWalk
import Derived.ProofKit
import Derived.OpenShut
import Derived.ShutString
import Derived.ChangeOld
import Derived.Lib.SmallJoins
import Derived.Deep.Slices
import Derived.Deep.Fields
import Derived.ChangeSame
import Derived.Deep.Matrix
import Derived.Deep.RegionHeld3
set_option linter.unusedVariables false
set_option linter.unusedSimpArgs false
set_option maxRecDepth 100000
set_option maxHeartbeats 16000000
namespace Go.Proofs.YtlfhhkgleapamaaGreatDoor
open Go.RowKit Go.ChangeShapes Go.WideShapes Go.ChangeAt Go.Deep
abbrev OA := Option Addr
abbrev BA := ByteArray
theorem bR {n : Nat} {w : World} : Below n w w := Below.refl n w
def Ks (W : World) : List (Addr × Value) → Prop
  | [] => True
  | [x] => W.cell? x.1 = some x.2
  | x :: y :: r => W.cell? x.1 = some x.2 ∧ Ks W (y :: r)
def Kb (s : Nat) : List (Addr × Value) → Prop
  | [] => True
  | [x] => x.1.block < s
  | x :: y :: r => x.1.block < s ∧ Kb s (y :: r)
theorem ks_of {R W : World} (h : Below R.heap.size R W) : ∀ l, Ks R l → Kb R.heap.size l → Ks W l
  | [], _, _ => trivial
  | [x], h1, h2 => (h.cell (p := x.1) h2).trans h1
  | x :: y :: r, h1, h2 => ⟨(h.cell (p := x.1) h2.1).trans h1.1, ks_of h (y :: r) h1.2 h2.2⟩
theorem kS {R W : World} {l : List (Addr × Value)} (h : Below R.heap.size R W) (h1 : Ks R l := by (try simp only [Ks]); (repeat' apply And.intro) <;> first | assumption | simp [*, go_sem]) (h2 : Kb R.heap.size l := by (try simp only [Kb]); (repeat' apply And.intro) <;> first | assumption | (simp [go_sem]; done) | (simp [go_sem]; omega)) : Ks W l := ks_of h l h1 h2
abbrev oC (A : OA) (n c : Nat) (B : OA) (m d : Nat) (q0 q1 q2 q3 : Int) : Obj := .cells #[.slice A n c, .slice B m d, .int .i64 q0, .int .i64 q1, .int .i64 q2, .int .i64 q3] 27
abbrev oP (I : OA) (n c : Nat) (G : OA) (g h : Nat) (K : OA) (k l : Nat) (a b d : Int) : Obj := .cells #[.slice I n c, .slice G g h, .slice K k l, .int .i64 a, .int .i64 b, .int .i64 d] 35
theorem ep {P : Program} {f : FuncId} {args : Array Value} {w : World} {v : Value} {Q : Ending → World → Prop} (h : Calls P f args w fun e w' => e = .returned v ∧ w = w') (k : Q (.returned v) w) : Calls P f args w Q := h.mono fun e w' hh => by obtain ⟨rfl, rfl⟩ := hh; exact k
theorem Sg {p : Prop} (h : p := by simp [go_sem]) : p := h
theorem Om {p : Prop} (h : p := by omega) : p := h
theorem bsz {p : Prop} (h : p := by first | assumption | (simp [go_sem]; done) | (simp [go_sem]; omega)) : p := h
variable {ll : List (List Int)} {l : List Int} {xs : List Value} {base c e g hi j k n s : Nat} {A : OA} {R W w w' : World}

def ext (w x : World) : World := { heap := w.heap ++ x.heap, tape := w.tape, drawn := x.drawn, os := w.os, output := w.output }
theorem ex {P : Program} {f : FuncId} {args : Array Value} {w : World} {v : Value} {Q : Ending → World → Prop} (h : Calls P f args w fun e w' => e = .returned v ∧ ∃ x, w' = ext w x) (k : ∀ x, Q (.returned v) (ext w x)) : Calls P f args w Q := h.mono fun e w' hh => by obtain ⟨rfl, x, rfl⟩ := hh; exact k x
theorem ext_size (w x : World) : (ext w x).heap.size = w.heap.size + x.heap.size := by simp [ext]
theorem ext_below (w x : World) : Below w.heap.size w (ext w x) :=
 ⟨rfl, rfl, rfl, by rw [ext_size]; omega, fun k hk => by simp [ext, Array.getElem?_append, hk]⟩
theorem ext_ex (h : Below w.heap.size w w') : ∃ x, w' = ext w x := by
 refine ⟨{ w' with heap := w'.heap.extract w.heap.size w'.heap.size }, ?_⟩;obtain ⟨h1, h2, h3, h4, h5⟩ := h
 cases w with | mk heap tape drawn os output =>
 cases w' with | mk heap' tape' drawn' os' output' =>
 simp only at h1 h2 h3 h4 h5;subst h1 h2 h3;simp only [ext, World.mk.injEq, and_true]
 apply Array.ext_getElem?
 intro i;rw [Array.getElem?_append]
 split
 ·
  rename_i hi
  exact h5 i hi
 ·
  rename_i hi
  rw [Array.getElem?_extract]
  split
  ·
   congr 1; omega
  ·
   exact Array.getElem?_eq_none Om
theorem ext_cell (w x : World) (b o : Nat) (s : Option Nat) (h : b < w.heap.size) : (ext w x).cell? ⟨b, o, s⟩ = w.cell? ⟨b, o, s⟩ := (ext_below w x).cell (p := ⟨b, o, s⟩) h
theorem ext_frozen (w x : World) (b o : Nat) (s : Option Nat) (h : b < w.heap.size) : (ext w x).frozen? ⟨b, o, s⟩ = w.frozen? ⟨b, o, s⟩ := (ext_below w x).frozen (p := ⟨b, o, s⟩) h
def NewLt (w x : World) (b k : Nat) : Prop := ¬ b < w.heap.size + k /\ b < w.heap.size + x.heap.size + k
def NewLe (w x : World) (b k : Nat) : Prop := ¬ b <= w.heap.size + k /\ b <= w.heap.size + x.heap.size + k
theorem ext_lt (w x : World) (b : Nat) : (b < (ext w x).heap.size) = (b < w.heap.size ∨ NewLt w x b 0) := by
 rw [ext_size, NewLt]; apply propext; constructor <;> intro h <;> omega
theorem ext_lek0 (w x : World) (b : Nat) : (b <= (ext w x).heap.size) = (b <= w.heap.size ∨ NewLe w x b 0) := by
 rw [ext_size, NewLe]; apply propext; constructor <;> intro h <;> omega
theorem ext_cell_drew (w x : World) (b o : Nat) (s : Option Nat) (h : b < w.heap.size) : (ext w.drew x).cell? ⟨b, o, s⟩ = w.cell? ⟨b, o, s⟩ := (ext_below w x).cell (p := ⟨b, o, s⟩) h
theorem ext_le (w x : World) : w.heap.size <= (ext w x).heap.size := (ext_below w x).size
theorem ext_self (w : World) : w = ext w { w with heap := #[] } := by cases w; simp [ext]
attribute [go_sem] ext_cell ext_frozen ext_lt ext_lek0 ext_cell_drew

section
variable {a w : World}
theorem bExt (h : Below a.heap.size a w) (x : World) : Below a.heap.size a (ext w x) := h.trans ((ext_below w x).mono h.size)
theorem bAlloc (h : Below a.heap.size a w) (o : Obj) : Below a.heap.size a (w.alloc o) := h.alloc h.size o
theorem bDrew (h : Below a.heap.size a w) : Below a.heap.size a w.drew := h.drew
theorem bDrewN (h : Below a.heap.size a w) (n : Nat) : Below a.heap.size a (w.drewN n) := ⟨h.os, h.tape, h.output, h.size, h.block⟩
theorem bSet (h : Below a.heap.size a w) {p : Addr} (hp : a.heap.size <= p.block) (u : Value) : Below a.heap.size a (w.setCell p u) := h.setCell hp u
theorem bL (h : Below n R W := by repeat first | exact .refl _ _ | assumption | refine bExt ?_ _ | refine bAlloc ?_ _ | refine bDrewN ?_ _ | refine bDrew ?_ | refine bSet ?_ (by first | exact Nat.le_refl _ | omega | (simp <;> omega)) _) : Below n R W := h
end

def Rd (s : Nat) (w : World) (A : OA) (n : Nat) (xs : List Value) : Prop :=
 xs.length = n * s /\ (0 < n -> ∃ b off, A = some ⟨b, off, none⟩ /\ b < w.heap.size /\ ∀ j u, xs[j]? = some u -> w.cell? ⟨b, off + j, none⟩ = some u)
def RdI (w : World) (A : OA) (n : Nat) (l : List Int) : Prop := Rd 1 w A n (l.map (Value.int .i64))

section
variable {s n : Nat} {w w' : World} {A : OA} {xs : List Value} {l : List Int}
theorem Rd.below (h : Rd s w A n xs) (hb : Below w.heap.size w w') : Rd s w' A n xs := by
 refine ⟨h.1, fun hn => ?_⟩;obtain ⟨b, off, e, hlt, hc⟩ := h.2 hn;exact ⟨b, off, e, Nat.lt_of_lt_of_le hlt hb.size, fun j u hu => (hb.cell (p := ⟨b, off + j, none⟩) hlt).trans (hc j u hu)⟩
theorem Rd.take_ (h : Rd s w A n xs) (k : Nat) (hk : k <= n) : Rd s w A k (xs.take (k * s)) := by
 refine ⟨?_, fun hn => ?_⟩
 ·
  rw [List.length_take, h.1];exact Nat.min_eq_left (Nat.mul_le_mul_right s hk)
 ·
  obtain ⟨b, off, e, hlt, hc⟩ := h.2 Om;refine ⟨b, off, e, hlt, fun j u hu => hc j u ?_⟩;rw [List.getElem?_take] at hu
  split at hu
  ·
   exact hu
  ·
   cases hu
theorem RdI.below (h : RdI w A n l) (hb : Below w.heap.size w w') : RdI w' A n l := Rd.below h hb
theorem RdI.len (h : RdI w A n l) : l.length = n := by have := h.1; simpa using this
theorem RdI.open_ (h : RdI w A n l) (hn : 0 < n) : ∃ b off, A = some ⟨b, off, none⟩ /\ b < w.heap.size /\ ∀ j, j < n -> w.cell? ⟨b, off + j, none⟩ = some (.int .i64 (l.getD j 0)) := by
 have hl := h.len;obtain ⟨b, off, e, hlt, hc⟩ := h.2 hn;refine ⟨b, off, e, hlt, fun j hj => hc j _ ?_⟩;have hj' : j < l.length := Om;simp [List.getD, hj']
theorem RdI.take_ (h : RdI w A n l) (k : Nat) (hk : k <= n) : RdI w A k (l.take k) := by
 have := Rd.take_ h k hk;unfold RdI;rw [List.map_take]
 simpa using this
theorem RdI.nil_ : RdI w A 0 [] := ⟨by simp, fun h => absurd h Om⟩
end

def blkOf (A : OA) : Option Nat := A.map (·.block)
theorem ownBlock_slice (A : OA) (n c : Nat) : (Value.slice A n c).ownBlock = blkOf A := by cases A <;> rfl

def Ow (e s base : Nat) (w : World) (A : OA) (n c : Nat) (xs : List Value) : Prop := w.ownsRow base e s (.slice A n c) n xs

section
variable {e s base base' n c : Nat} {w w' : World} {A : OA} {xs : List Value}
theorem grownBy_of_below {row : Option Nat} (h : Below w.heap.size w w') : w.grownBy w' row := ⟨h.os, h.tape, h.output, h.size, fun k hk _ => h.block k hk⟩
theorem gDrewN {row : Option Nat} (h : w.grownBy w' row) (k : Nat) : w.grownBy (w'.drewN k) row := ⟨h.os, h.tape, h.output, h.size, h.block⟩
theorem Ow.len (h : Ow e s base w A n c xs) : xs.length = n * s := h.1
theorem Ow.below (h : Ow e s base w A n c xs) (hb : Below w.heap.size w w') : Ow e s base w' A n c xs := by
 refine World.ownsRow.kept h (grownBy_of_below (row := none) hb) ?_
 cases hv : (Value.slice A n c).ownBlock <;> simp
theorem Ow.kept {row : Option Nat} (h : Ow e s base w A n c xs) (hg : w.grownBy w' row) (hne : blkOf A = none ∨ blkOf A ≠ row) : Ow e s base w' A n c xs :=
 World.ownsRow.kept h hg (by rw [ownBlock_slice]; exact hne)
theorem Ow.mono (h : Ow e s base w A n c xs) (hb : base' <= base) : Ow e s base' w A n c xs := by
 refine ⟨h.1, ?_⟩
 rcases h.2 with h2 | ⟨g, cap, cur, hv, hg, r⟩
 ·
  exact .inl h2
 ·
  exact .inr ⟨g, cap, cur, hv, Nat.le_trans hb hg, r⟩
theorem Ow.nil_ : Ow e s base w none 0 0 [] := World.ownsRow_nil w base e s
theorem Ow.cap_ (h : Ow e s base w A n c xs) : n <= c /\ c <= maxLen := by
 rcases h.2 with ⟨h2, _⟩ | ⟨g, cap, cur, hv, _, _, h3, h4, _⟩
 ·
  simp at h2; obtain ⟨rfl, rfl, rfl⟩ := h2; simp [maxLen]
 ·
  simp at hv; obtain ⟨_, rfl⟩ := hv; exact ⟨h3, h4⟩
theorem Ow.form_ (h : Ow e s base w A n c xs) (hn : 0 < n) : ∃ g, A = some ⟨g, 0, none⟩ /\ base <= g /\ g < w.heap.size := by
 rcases h.2 with ⟨_, h2⟩ | ⟨g, cap, cur, hv, hb, hg, _⟩
 ·
  omega
 ·
  simp at hv;exact ⟨g, hv.1, hb, (Array.getElem?_eq_some_iff.1 hg).1⟩
theorem Ow.blk (h : Ow e s base w A n c xs) (hA : blkOf A = some g) : base <= g /\ g < w.heap.size :=
 World.ownsRow.lt h g (by rw [ownBlock_slice]; exact hA)
theorem Ow.rd (h : Ow e s base w A n c xs) : Rd s w A n xs := by
 refine ⟨h.1, fun hn => ?_⟩;obtain ⟨g, rfl, hb, hlt⟩ := h.form_ hn;refine ⟨g, 0, rfl, hlt, fun j u hu => ?_⟩;have := World.ownsRow.cells h (g := g) rfl j u hu;rw [Nat.zero_add];have hadd : (⟨g, 0, none⟩ : Addr).add j = ⟨g, j, none⟩ := by unfold Addr.add; split <;> simp_all
 rw [hadd] at this;exact this
theorem below_grown {row : Option Nat} (h : Below R.heap.size R w) (hg : w.grownBy w' row) (hr : ∀ k, row = some k -> R.heap.size <= k) : Below R.heap.size R w' := h.grown hg h.size hr
end

theorem int_info : (Tryz.prog.info? 3).map (fun i => (i.zero, i.size, i.bytes)) = some (some (.int .i64 0), 1, 8) := by kernel_rfl

def OwI (base : Nat) (w : World) (A : OA) (n c : Nat) (l : List Int) : Prop := Ow 3 1 base w A n c (l.map (Value.int .i64))
section
variable {base base' n c : Nat} {w w' : World} {A : OA} {l : List Int}
theorem OwI.len (h : OwI base w A n c l) : l.length = n := by have := Ow.len h; simpa using this
theorem OwI.below (h : OwI base w A n c l) (hb : Below w.heap.size w w') : OwI base w' A n c l := Ow.below h hb
theorem OwI.kept {row : Option Nat} (h : OwI base w A n c l) (hg : w.grownBy w' row) (hne : blkOf A = none ∨ blkOf A ≠ row) : OwI base w' A n c l := Ow.kept h hg hne
theorem OwI.mono (h : OwI base w A n c l) (hb : base' <= base) : OwI base' w A n c l := Ow.mono h hb
theorem OwI.nil_ : OwI base w none 0 0 [] := Ow.nil_
theorem OwI.rd (h : OwI base w A n c l) : RdI w A n l := Ow.rd h
theorem OwI.blk (h : OwI base w A n c l) (hA : blkOf A = some g) : base <= g /\ g < w.heap.size := Ow.blk h hA
theorem OwI.lit_ (hR : Below R.heap.size R w) (l : List Int) (hl : l.length <= maxLen) (cs : Array Value) (hcs : cs.toList = l.map (Value.int .i64)) :
  OwI R.heap.size (w.alloc (.cells cs 3)) (some ⟨w.heap.size, 0, none⟩) l.length l.length l := by
 have hs : cs.size = l.length * 1 := by rw [<- Array.length_toList, hcs]; simp
 have := World.ownsRow_lit (base := R.heap.size) (e := 3) (size := 1) w cs l.length hR.size hl hs;rw [hcs] at this;exact this
end

theorem Ow.stored_ (h : Ow e s base w (some ⟨g, 0, none⟩) n c xs) (j : Nat) (u : Value) :
  Ow e s base (w.setCell ⟨g, j, none⟩ u) (some ⟨g, 0, none⟩) n c (xs.set j u) /\ w.grownBy (w.setCell ⟨g, j, none⟩ u) (some g) := World.ownsRow.stored h j u
theorem Ow.cell_ (h : Ow e s base w (some ⟨g, 0, none⟩) n c xs) (j : Nat) (hj : j < n * s) : w.cell? ⟨g, j, none⟩ = xs[j]? := World.ownsRow.cellAt h j hj
theorem Ow.frozen_ (h : Ow e s base w (some ⟨g, 0, none⟩) n c xs) (j : Nat) : w.frozen? ⟨g, j, none⟩ = false := World.ownsRow.frozenAt h j
theorem OwI.stored_ (h : OwI base w (some ⟨g, 0, none⟩) n c l) (j : Nat) (u : Int) :
  OwI base (w.setCell ⟨g, j, none⟩ (.int .i64 u)) (some ⟨g, 0, none⟩) n c (l.set j u) /\ w.grownBy (w.setCell ⟨g, j, none⟩ (.int .i64 u)) (some g) := by
 have := Ow.stored_ h j (.int .i64 u);refine ⟨?_, this.2⟩;unfold OwI;rw [List.map_set];exact this.1
theorem OwI.cell_ (h : OwI base w (some ⟨g, 0, none⟩) n c l) (j : Nat) (hj : j < n) : w.cell? ⟨g, j, none⟩ = some (.int .i64 (l[j]?.getD 0)) := by
 have hl := h.len;rw [Ow.cell_ h j Om];simp [show j < l.length by omega]
theorem OwI.frozen_ (h : OwI base w (some ⟨g, 0, none⟩) n c l) (j : Nat) : w.frozen? ⟨g, j, none⟩ = false := Ow.frozen_ h j
theorem OwI.form_ (h : OwI base w A n c l) (hn : 0 < n) : ∃ g, A = some ⟨g, 0, none⟩ /\ base <= g /\ g < w.heap.size := Ow.form_ h hn

section
variable {ops : Array Oper} {rest : List Oper} {o : Oper} {a : Act} {Q : Exit -> Act -> World -> Prop}
theorem wpl_push_int (R W : World) (v : Int) (gx : Nat) (hgx : gx = W.heap.size) (hgd : o.guard = none) (s x : Operand) (ho : o.op = .call { callee := .builtin .append, args := #[s, x], argTypes := #[25, 25] })
  (A : OA) (n c : Nat) (l : List Int) (hs : a.eval s = .slice A n c) {W₀ : World} (hown₀ : OwI R.heap.size W₀ A n c l) (hW₀ : Below W₀.heap.size W₀ W) (hR : Below R.heap.size R W)
  (hx : a.eval x = .slice (some ⟨gx, 0, none⟩) 1 1) (hn : n <= 1099511627776)
  (h : ∀ A' c' y, OwI R.heap.size (ext R y) A' (n + 1) c' (l ++ [v]) -> W.grownBy (ext R y) (blkOf A) -> (blkOf A' = blkOf A ∨ ∃ g, blkOf A' = some g /\ W.heap.size < g) -> wpList Tryz.prog ops Q rest (a.put o.dst (.slice A' (n + 1) c')) (ext R y)) :
  wpList Tryz.prog ops Q (o :: rest) a (W.alloc (.cells #[.int .i64 v] 3)) := by
 subst hgx;have hown := hown₀.below hW₀;obtain ⟨i0, hi0, hz0, hz1, hz2⟩ := info_parts int_info;have hRw : Below R.heap.size R (W.alloc (.cells #[.int .i64 v] 3)) := bAlloc hR _;have hown1 := hown.below (bAlloc (Below.refl W.heap.size W) (.cells #[.int .i64 v] 3));refine wpList_append_own_at _ hgd s x _ ho R.heap.size 3 i0 (.int .i64 0) 1 8 Tryz.underlying25 hi0 hz0 hz1 hz2 rfl Om (.slice A n c) n (l.map (Value.int .i64)) hs hown1
  ⟨W.heap.size, 0, none⟩ 1 1 [.int .i64 v] hx rfl ?_ (by simp [Value.oneCell']) (by simp only [maxLen]; omega) Om hRw.size ?_
 ·
  intro j u hu
  match j with
  | 0 => simp at hu; subst hu; simp [Addr.add, go_sem]
  | j + 1 => simp at hu
 ·
  intro v' w' hown' hg _ hd;rw [ownBlock_slice] at hg hd;have hBw : Below R.heap.size R w' := below_grown hRw hg (fun k hk => (hown1.blk hk).1);obtain ⟨y, rfl⟩ := ext_ex hBw
  rcases hown'.2 with ⟨_, h0⟩ | ⟨g', cap, cur, rfl, hrest⟩
  ·
   omega
  ·
   rw [ownBlock_slice] at hd;refine h _ _ y ?_ ((World.grownBy_alloc W _ _).trans hg) ?_
   ·
    have : (l ++ [v]).map (Value.int .i64) = l.map (Value.int .i64) ++ [.int .i64 v] := by simp
    unfold OwI Ow;rw [this];exact hown'
   ·
    rcases hd with hd | hd
    ·
     exact .inl hd
    ·
     exact .inr ⟨_, hd, by simp⟩
end

def RetI (w : World) (l : List Int) (e : Ending) (w' : World) : Prop := ∃ A n c x, e = .returned (.slice A n c) /\ w' = ext w x /\ OwI w.heap.size (ext w x) A n c l
theorem RetI.mk_ (ho : OwI base W A n c l) (hbase : w.heap.size <= base) (hb : Below w.heap.size w W) : RetI w l (.returned (.slice A n c)) W := by
 obtain ⟨x, rfl⟩ := ext_ex hb;exact ⟨A, n, c, x, rfl, rfl, ho.mono hbase⟩
def RetIB (w : World) (l : List Int) (ok : Bool) (e : Ending) (w' : World) : Prop := ∃ A n c x, e = .returned (.tuple #[.slice A n c, .bool ok]) /\ w' = ext w x /\ OwI w.heap.size (ext w x) A n c l
theorem RetIB.mk_ {ok : Bool} (ho : OwI base W A n c l) (hbase : w.heap.size <= base) (hb : Below w.heap.size w W) : RetIB w l ok (.returned (.tuple #[.slice A n c, .bool ok])) W := by
 obtain ⟨x, rfl⟩ := ext_ex hb;exact ⟨A, n, c, x, rfl, rfl, ho.mono hbase⟩
section
variable {α : Type} (d : α)
theorem take_succ_getD (l : List α) (k : Nat) (h : k < l.length) : l.take (k + 1) = l.take k ++ [l[k]?.getD d] := by
 rw [List.take_succ_eq_append_getElem h]; simp [h]
theorem getD_mem (l : List α) (k : Nat) (h : k < l.length) : l[k]?.getD d ∈ l := by simp [h]
theorem any_hit {P : α -> Bool} {l : List α} (h : k < l.length) (hp : P (l[k]?.getD d) = true) : l.any P = true := List.any_eq_true.2 ⟨_, getD_mem d l k h, hp⟩
theorem any_step {P : α -> Bool} {l : List α} (h : k < l.length) (ht : (l.take k).any P = false) (hp : P (l[k]?.getD d) = false) : (l.take (k + 1)).any P = false := by
 rw [take_succ_getD d l k h, List.any_append, ht]; simp only [List.any_cons, List.any_nil, Bool.or_false, Bool.false_or]; exact hp
theorem any_end {P : α -> Bool} {l : List α} (ht : (l.take k).any P = false) (h : l.length <= k) : l.any P = false := by
 rwa [List.take_of_length_le h] at ht
theorem all_miss {P : α -> Bool} {l : List α} (h : k < l.length) (hp : P (l[k]?.getD d) = false) : l.all P = false := by
 rw [Bool.eq_false_iff]; intro hh; have := List.all_eq_true.1 hh _ (getD_mem d l k h); rw [hp] at this; cases this
theorem all_step {P : α -> Bool} {l : List α} (h : k < l.length) (ht : (l.take k).all P = true) (hp : P (l[k]?.getD d) = true) : (l.take (k + 1)).all P = true := by
 rw [take_succ_getD d l k h, List.all_append, ht]; simp only [List.all_cons, List.all_nil, Bool.and_true]; exact hp
theorem all_end {P : α -> Bool} {l : List α} (ht : (l.take k).all P = true) (h : l.length <= k) : l.all P = true := by
 rwa [List.take_of_length_le h] at ht
end
theorem ret_int {a b : Int} (h : a = b) : Ending.returned (.int .i64 a) = .returned (.int .i64 b) := by rw [h]
theorem ret_bool {a b : Bool} (h : a = b) : Ending.returned (.bool a) = .returned (.bool b) := by rw [h]
section
variable {α : Type} (l : List α) (k n : Nat) (z : α)
end
def firstIdx (p : Nat -> Bool) (n : Nat) : Nat × Bool := match (List.range n).find? p with
 | some i => (i, true)
 | none => (0, false)
theorem firstIdx_hit {p : Nat -> Bool} (hk : k < n) (hb : ∀ j, j < k -> p j = false) (h : p k = true) : firstIdx p n = (k, true) := by
 have : (List.range n).find? p = some k := by
  rw [List.find?_range_eq_some];exact ⟨h, by simpa using hk, fun j hj => by rw [hb j hj]; rfl⟩
 rw [firstIdx, this]
theorem firstIdx_none {p : Nat -> Bool} (h : ∀ j, j < n -> p j = false) : firstIdx p n = (0, false) := by
 have : (List.range n).find? p = none := by
  rw [List.find?_eq_none];intro x hx;rw [h x (by simpa using hx)]
  simp
 rw [firstIdx, this]

def inB (a lo hi : Int) : Bool := decide (lo <= a) && decide (a <= hi)
theorem inB_iff {a lo hi : Int} : inB a lo hi = true ↔ lo <= a /\ a <= hi := by simp [inB]
theorem l1In_any (a lo hi : Int) (w : World) :
  Calls Tryz.prog 60 #[.int .i64 a, .int .i64 lo, .int .i64 hi] w fun e w' => e = .returned (.bool (inB a lo hi)) /\ w = w' := by
 unfold inB;by_cases h1 : lo <= a <;> by_cases h2 : a <= hi
 all_goals
  go_enter Tryz.func60, Tryz.ntmps60;go_wp2;go_ret;simp [h1, h2]
theorem within_any (a lo hi : Int) (w : World) :
  Calls Tryz.prog 64 #[.int .i64 a, .int .i64 lo, .int .i64 hi] w fun e w' => e = .returned (.bool (inB a lo hi)) /\ w = w' := by
 unfold inB;by_cases h1 : lo <= a <;> by_cases h2 : a <= hi
 all_goals
  go_enter Tryz.func64, Tryz.ntmps64;go_wp2;go_ret;simp [h1, h2]
theorem l1Most_any (a b : Int) (w : World) :
  Calls Tryz.prog 143 #[.int .i64 a, .int .i64 b] w fun e w' => e = .returned (.int .i64 (max a b)) /\ w = w' := by
 by_cases h1 : b < a
 all_goals
  go_enter Tryz.func143, Tryz.ntmps143;go_wp2;go_ret;exact ⟨congrArg (fun z => Ending.returned (.int .i64 z)) Om, rfl⟩
theorem l1Least_any (a b : Int) (w : World) :
  Calls Tryz.prog 124 #[.int .i64 a, .int .i64 b] w fun e w' => e = .returned (.int .i64 (min a b)) /\ w = w' := by
 by_cases h1 : a < b
 all_goals
  go_enter Tryz.func124, Tryz.ntmps124;go_wp2;go_ret;exact ⟨congrArg (fun z => Ending.returned (.int .i64 z)) Om, rfl⟩

theorem laidOutAll : laidOutB Tryz.prog = true := by kernel_rfl

def tsOk (P : Program) (ts : List TypeId) : Prop := (ts.all fun t => P.readableRec t && decide (t < P.types.size)) = true
theorem trodAll_below {P : Program} (hl : laidOutB P = true) {H : Type} {enc : TypeId × Value -> H} {W' : World} (hb : Below W.heap.size W W') : ∀ (ts : List TypeId) (vs : List Value) (ds : List (DataW H)) (ps : List MemPlace), tsOk P ts ->
  DataW.TrodAll enc P W 0 (fun _ => true) true ts vs ds ps -> DataW.TrodAll enc P W' 0 (fun b => decide (b < W.heap.size)) true ts vs ds ps := by
 intro ts
 induction ts with
 | nil =>
  intro vs ds ps _ h
  cases vs <;> cases ds <;> first | exact h | exact h.elim
 | cons t ts ih =>
  intro vs ds ps hts h
  cases vs with
  | nil => exact h.elim
  | cons v vs =>
   cases ds with
   | nil => exact h.elim
   | cons d ds =>
    obtain ⟨p, q, h1, h2, e⟩ := h;simp only [tsOk, List.all_cons, Bool.and_eq_true, decide_eq_true_eq] at hts;have lt1 : ∀ x ∈ p, x.block < W.heap.size := by obtain ⟨m, hm⟩ := h1; exact DataW.trod_lt m _ _ _ hm
    exact ⟨p, q, Below.trod hl hts.1.1 hts.1.2 h1 hb lt1, ih _ _ _ hts.2 h2, e⟩

section
section
variable {H : Type} {enc : TypeId × Value -> H} {P : Program} {w : World} {base : Nat} {spare : Nat -> Bool} {held : Bool}
end

end
theorem OwI.cap_ (h : OwI base w A n c l) : n <= c /\ c <= maxLen := Ow.cap_ h
section
variable {e s base n c e' s' n' c' : Nat} {W W' : World} {A B : OA} {xs ys : List Value}
end
section
variable {P : Program} (w : World)
theorem run_append_of_nil (base : Nat) (t ty e : TypeId) (i : TypeInfo) (size : Nat) (ht : P.underlying t = some (.slice e)) (hi : P.info? e = some i)
  (v : Value) (n : Nat) (xs : List Value) (hown : w.ownsRow base e size v n xs) (c : Nat) : (Builtin.append_ #[t, t] ty #[v, .slice none 0 c]).run P w = .ok v w := by
 rcases hown.2 with ⟨rfl, rfl⟩ | ⟨g, cap, cur, rfl, _, _, hnc, _⟩
 ·
  simp [Builtin.append_, run_underlying ht, sizeOf, typeInfo, hi, Builtin.lenOf, Builtin.firstCells]
 ·
  simp [Builtin.append_, run_underlying ht, sizeOf, typeInfo, hi, Builtin.lenOf, Builtin.firstCells, hnc, storeCells]
theorem run_append_rd (base : Nat) (t ty e : TypeId) (i : TypeInfo) (z : Value) (size bytes : Nat) (ht : P.underlying t = some (.slice e)) (hi : P.info? e = some i) (hz : i.zero = some z)
  (hsize : i.size = size) (hby : i.bytes = bytes) (hzs : z.cells.size = size) (hsz : 0 < size)
  (v : Value) (n : Nat) (xs : List Value) (hown : w.ownsRow base e size v n xs)
  (A : OA) (m c : Nat) (news : List Value) (hr : Rd size w A m news) (h1 : ∀ u ∈ news, u.oneCell' = true)
  (h63 : n + m <= maxLen) (hbytes : (n + m) * bytes <= 140737488355328) (hbase : base <= w.heap.size) :
  ∃ v' w', (Builtin.append_ #[t, t] ty #[v, .slice A m c]).run P w = .ok v' w' /\ w'.ownsRow base e size v' (n + m) (xs ++ news) /\ w.grownBy w' v.ownBlock /\
   (v'.ownBlock = v.ownBlock ∨ v'.ownBlock = some w.heap.size) := by
 rcases A with _ | ad
 ·
  have hm : m = 0 := by
   rcases Nat.eq_zero_or_pos m with h0 | h0
   ·
    exact h0
   ·
    obtain ⟨b, off, h, _⟩ := hr.2 h0
    cases h
  subst hm;have hn : news = [] := List.eq_nil_of_length_eq_zero (by simpa using hr.1);subst hn;exact ⟨v, w, run_append_of_nil w base t ty e i size ht hi v n xs hown c, by simpa using hown, World.grownBy.refl w _, .inl rfl⟩
 ·
  have hcells : ∀ j u, news[j]? = some u -> w.cell? (ad.add j) = some u := by
   intro j u hu
   rcases Nat.eq_zero_or_pos m with h0 | h0
   ·
    subst h0;have hn : news = [] := List.eq_nil_of_length_eq_zero (by simpa using hr.1);subst hn;simp at hu
   ·
    obtain ⟨b, off, h, _, hc⟩ := hr.2 h0;injection h with h;subst h;have hadd : (⟨b, off, none⟩ : Addr).add j = ⟨b, off + j, none⟩ := by unfold Addr.add; split <;> simp_all
    rw [hadd];exact hc j u hu
  obtain ⟨v', w', hrun, h2, h3, _, h5⟩ := run_append_own_at (P := P) w base t ty e i z size bytes ht hi hz hsize hby hzs hsz v n xs hown ad m c news hr.1 hcells h1 h63 hbytes hbase;exact ⟨v', w', hrun, h2, h3, h5⟩
end
theorem wpl_app_int {ops : Array Oper} {rest : List Oper} {o : Oper} {a : Act} {Q : Exit -> Act -> World -> Prop} (R : World) (hgd : o.guard = none) (s x : Operand) (ho : o.op = .call { callee := .builtin .append, args := #[s, x], argTypes := #[25, 25] })
  (A : OA) (n c : Nat) (l : List Int) (hs : a.eval s = .slice A n c) {W₀ : World} (hown₀ : OwI R.heap.size W₀ A n c l) (hW₀ : Below W₀.heap.size W₀ W) (hR : Below R.heap.size R W)
  (B : OA) (m d : Nat) (r : List Int) (hx : a.eval x = .slice B m d) {W₁ : World} (hr₁ : RdI W₁ B m r) (hW₁ : Below W₁.heap.size W₁ W) (hn : n + m <= 1099511627776)
  (h : ∀ A' c' y, OwI R.heap.size (ext R y) A' (n + m) c' (l ++ r) -> W.grownBy (ext R y) (blkOf A) -> (blkOf A' = blkOf A ∨ blkOf A' = some W.heap.size) -> wpList Tryz.prog ops Q rest (a.put o.dst (.slice A' (n + m) c')) (ext R y)) :
  wpList Tryz.prog ops Q (o :: rest) a W := by
 have hown := hown₀.below hW₀;have hr := hr₁.below hW₁;obtain ⟨i0, hi0, hz0, hz1, hz2⟩ := info_parts int_info;obtain ⟨v', w', hrun, h2, h3, h4⟩ := run_append_rd (P := Tryz.prog) W R.heap.size 25 o.type 3 i0 (.int .i64 0) 1 8 Tryz.underlying25 hi0 hz0 hz1 hz2 rfl Om (.slice A n c) n (l.map (Value.int .i64)) hown B m d (r.map (Value.int .i64)) hr
  (by intro u hu; simp only [List.mem_map] at hu; obtain ⟨z, _, rfl⟩ := hu; rfl) (by simp only [maxLen]; omega) Om hR.size
 refine wpList_plain hgd fun K hK => ?_
 unfold Oper.wp execOp;simp only [ho, resolve, invoke, builtin, Sem.run_bind, Sem.run_pure, Result.andThen_ok, List.map_toArray, List.map_cons, List.map_nil, hs, hx, hrun];rw [ownBlock_slice] at h3 h4;have hBw : Below R.heap.size R w' := below_grown hR h3 (fun k hk => (hown.blk hk).1);obtain ⟨y, rfl⟩ := ext_ex hBw;have hm : l.map (Value.int .i64) ++ r.map (Value.int .i64) = (l ++ r).map (Value.int .i64) := by simp
 rw [hm] at h2
 rcases h2.2 with ⟨hv, h0⟩ | ⟨g', cap, cur, hv, hrest⟩
 ·
  subst hv;rw [ownBlock_slice] at h4;have e : Value.slice none 0 0 = .slice none (n + m) 0 := by rw [h0]
  rw [e] at h2 ⊢;exact hK _ _ (h none 0 y h2 h3 h4)
 ·
  subst hv;rw [ownBlock_slice] at h4;exact hK _ _ (h _ _ y h2 h3 h4)
def allB (l : List Int) (lo hi : Int) : Bool := l.all fun x => inB x lo hi
theorem allB_of {lo hi : Int} (h : allB l lo hi = true) : ∀ x ∈ l, lo <= x /\ x <= hi := fun x hx => inB_iff.1 (List.all_eq_true.1 h x hx)
theorem l1All_any (w : World) (A : OA) (n c : Nat) (l : List Int) (lo hi : Int) (ha : RdI w A n l) (hn : n <= 1099511627776) :
  Calls Tryz.prog 99 #[.slice A n c, .int .i64 lo, .int .i64 hi] w fun e w' => e = .returned (.bool (allB l lo hi)) /\ w = w' := by
 have Hl := Lib.hid ha.len;unfold allB;go_enter Tryz.func99, Tryz.ntmps99;go_wp2
 go_loop [8, 11] (fun _ i => ∃ k : Nat, k <= n /\ i = .int .i64 k /\ Hid ((l.take k).all (fun x => inB x lo hi) = true)) (fun _ i => n - (intOf i).toNat)
 case atStart => exact ⟨0, Om, rfl, rfl⟩
 case round =>
  obtain ⟨k, hk, rfl, HT⟩ := hrel;by_cases hlt : k < n
  ·
   obtain ⟨b, off, rfl, hb, hc⟩ := ha.open_ Om;go_wp2_with (go_at_call 60; (with_reducible refine ep (l1In_any _ _ _ _) ?_))
   ·
    have hh : (!inB (l[k]?.getD 0) lo hi) = true := by assumption
    go_ret;exact ⟨ret_bool (all_miss 0 (by rw [Hl.out]; exact hlt) (by simpa using hh)).symm, rfl⟩
   ·
    have hh : (!inB (l[k]?.getD 0) lo hi) = false := by assumption
    go_round
    case rel => exact ⟨k + 1, Om, by go_num, all_step 0 (by rw [Hl.out]; exact hlt) HT.out (by simpa using hh)⟩
    case measure => simp [intOf]; omega
  ·
   go_wp2;go_ret;exact ⟨ret_bool (all_end HT.out (by rw [Hl.out]; omega)).symm, rfl⟩
theorem allWithin_any (w : World) (A : OA) (n c : Nat) (l : List Int) (lo hi : Int) (ha : RdI w A n l) (hn : n <= 1099511627776) :
  Calls Tryz.prog 84 #[.slice A n c, .int .i64 lo, .int .i64 hi] w fun e w' => e = .returned (.bool (allB l lo hi)) /\ w = w' := by
 have Hl := Lib.hid ha.len;unfold allB;go_enter Tryz.func84, Tryz.ntmps84;go_wp2
 go_loop [8, 11] (fun _ i => ∃ k : Nat, k <= n /\ i = .int .i64 k /\ Hid ((l.take k).all (fun x => inB x lo hi) = true)) (fun _ i => n - (intOf i).toNat)
 case atStart => exact ⟨0, Om, rfl, rfl⟩
 case round =>
  obtain ⟨k, hk, rfl, HT⟩ := hrel;by_cases hlt : k < n
  ·
   obtain ⟨b, off, rfl, hb, hc⟩ := ha.open_ Om;go_wp2_with (go_at_call 64; (with_reducible refine ep (within_any _ _ _ _) ?_))
   ·
    have hh : (!inB (l[k]?.getD 0) lo hi) = true := by assumption
    go_ret;exact ⟨ret_bool (all_miss 0 (by rw [Hl.out]; exact hlt) (by simpa using hh)).symm, rfl⟩
   ·
    have hh : (!inB (l[k]?.getD 0) lo hi) = false := by assumption
    go_round
    case rel => exact ⟨k + 1, Om, by go_num, all_step 0 (by rw [Hl.out]; exact hlt) HT.out (by simpa using hh)⟩
    case measure => simp [intOf]; omega
  ·
   go_wp2;go_ret;exact ⟨ret_bool (all_end HT.out (by rw [Hl.out]; omega)).symm, rfl⟩
theorem l1Own_any (w : World) (A : OA) (n c : Nat) (l : List Int) (ha : RdI w A n l) (hn : n <= 1099511627776) :
  Calls Tryz.prog 175 #[.slice A n c] w (RetI w l) := by
 have o0 := OwI.lit_ (Below.refl w.heap.size w) [] (by simp [maxLen]) #[] rfl;have hn0 : 0 + n <= 1099511627776 := Om;go_enter Tryz.func175, Tryz.ntmps175;go_wp2_with (at_builtin; (refine wpl_app_int w rfl _ _ rfl (some ⟨w.heap.size, 0, none⟩) 0 0 [] rfl o0 ?_ ?_ A n c l rfl ha ?_ hn0 ?_); exact bL; exact bL; exact bL; intro A' c' y ho hg hd)
 go_ret;exact RetI.mk_ (by simpa using ho) (Nat.le_refl _) (ext_below _ _)
theorem copyInts_any (w : World) (A : OA) (n c : Nat) (l : List Int) (ha : RdI w A n l) (hn : n <= 1099511627776) :
  Calls Tryz.prog 204 #[.slice A n c] w (RetI w l) := by
 have o0 := OwI.lit_ (Below.refl w.heap.size w) [] (by simp [maxLen]) #[] rfl;have hn0 : 0 + n <= 1099511627776 := Om;go_enter Tryz.func204, Tryz.ntmps204;go_wp2_with (at_builtin; (refine wpl_app_int w rfl _ _ rfl (some ⟨w.heap.size, 0, none⟩) 0 0 [] rfl o0 ?_ ?_ A n c l rfl ha ?_ hn0 ?_); exact bL; exact bL; exact bL; intro A' c' y ho hg hd)
 go_ret;exact RetI.mk_ (by simpa using ho) (Nat.le_refl _) (ext_below _ _)
def RdM (w : World) (A : OA) (n : Nat) (ll : List (List Int)) : Prop :=
 ll.length = n /\ (0 < n -> ∃ b off, A = some ⟨b, off, none⟩ /\ b < w.heap.size /\ ∀ j, j < n -> ∃ B m d, w.cell? ⟨b, off + j, none⟩ = some (.slice B m d) /\ RdI w B m (ll[j]?.getD []) /\ m <= d /\ d <= maxLen)
theorem RdM.below (h : RdM w A n ll) (hb : Below w.heap.size w w') : RdM w' A n ll := by
 refine ⟨h.1, fun hn => ?_⟩;obtain ⟨b, off, rfl, hlt, hc⟩ := h.2 hn;refine ⟨b, off, rfl, Nat.lt_of_lt_of_le hlt hb.size, fun j hj => ?_⟩;obtain ⟨B, m, d, h1, h2, h3⟩ := hc j hj;exact ⟨B, m, d, (hb.cell (p := ⟨b, off + j, none⟩) hlt).trans h1, h2.below hb, h3⟩
theorem RdM.len (h : RdM w A n ll) : ll.length = n := h.1
def OwM (base : Nat) (w : World) (A : OA) (n c : Nat) (ll : List (List Int)) : Prop :=
 ll.length = n /\ ∃ (B : Nat -> OA) (m d : Nat -> Nat), Ow 25 1 base w A n c ((List.range n).map fun j => .slice (B j) (m j) (d j)) /\
  (∀ j, j < n -> OwI base w (B j) (m j) (d j) (ll[j]?.getD []) /\ (blkOf (B j) = none ∨ blkOf (B j) ≠ blkOf A)) /\ ∀ i j, i < n -> j < n -> i ≠ j -> (blkOf (B i) = none ∨ blkOf (B i) ≠ blkOf (B j))
section
variable {base n c : Nat} {w w' : World} {A : OA} {ll : List (List Int)}
theorem OwM.rd (h : OwM base w A n c ll) : RdM w A n ll := by
 obtain ⟨h1, B, m, d, h2, h3, h4⟩ := h;refine ⟨h1, fun hn => ?_⟩;obtain ⟨b, off, e, hlt, hc⟩ := h2.rd.2 hn;exact ⟨b, off, e, hlt, fun j hj => ⟨B j, m j, d j, hc j _ (by simp [hj]), (h3 j hj).1.rd, (h3 j hj).1.cap_⟩⟩
end
def lenSum (ll : List (List Int)) : Int := (ll.map fun l => (l.length : Int)).sum
theorem gSetM (w : World) (g k : Nat) (v : Value) : w.grownBy (w.setCell ⟨g, k, none⟩ v) (some g) :=
 ⟨rfl, rfl, rfl, by simp [World.setCell], fun j _ hne => Below.heap_setCell w ⟨g, k, none⟩ v j (fun e => hne (by rw [e]))⟩
def OwMB (base hi : Nat) (w : World) (A : OA) (n c : Nat) (ll : List (List Int)) : Prop :=
 ll.length = n /\ ∃ (B : Nat -> OA) (m d : Nat -> Nat), (Ow 25 1 base w A n c ((List.range n).map fun j => .slice (B j) (m j) (d j)) /\
  (∀ j, j < n -> OwI base w (B j) (m j) (d j) (ll[j]?.getD []) /\ (blkOf (B j) = none ∨ blkOf (B j) ≠ blkOf A)) /\ ∀ i j, i < n -> j < n -> i ≠ j -> (blkOf (B i) = none ∨ blkOf (B i) ≠ blkOf (B j))) /\
  (∀ z, blkOf A = some z -> z < hi) /\ ∀ j, j < n -> ∀ z, blkOf (B j) = some z -> z < hi
section
variable {base hi n c : Nat} {w w' : World} {A : OA} {ll : List (List Int)}
theorem OwMB.toM (h : OwMB base hi w A n c ll) : OwM base w A n c ll := by obtain ⟨h1, B, m, d, h2, _⟩ := h; exact ⟨h1, B, m, d, h2⟩
theorem OwMB.below (h : OwMB base hi w A n c ll) (hb : Below w.heap.size w w') : OwMB base hi w' A n c ll := by
 obtain ⟨h1, B, m, d, ⟨h2, h3, h4⟩, h5⟩ := h;exact ⟨h1, B, m, d, ⟨h2.below hb, fun j hj => ⟨(h3 j hj).1.below hb, (h3 j hj).2⟩, h4⟩, h5⟩
theorem OwMB.mono {base' hi' : Nat} (h : OwMB base hi w A n c ll) (h1 : base' <= base) (h2 : hi <= hi') : OwMB base' hi' w A n c ll := by
 obtain ⟨g1, B, m, d, ⟨g2, g3, g4⟩, g5, g6⟩ := h;exact ⟨g1, B, m, d, ⟨g2.mono h1, fun j hj => ⟨(g3 j hj).1.mono h1, (g3 j hj).2⟩, g4⟩, fun z hz => Nat.lt_of_lt_of_le (g5 z hz) h2, fun j hj z hz => Nat.lt_of_lt_of_le (g6 j hj z hz) h2⟩
theorem OwMB.kept (h : OwMB base hi w A n c ll) (hg : w.grownBy w' (some g)) (hne : g < base ∨ hi <= g) : OwMB base hi w' A n c ll := by
 obtain ⟨g1, B, m, d, ⟨g2, g3, g4⟩, g5, g6⟩ := h;have hA : blkOf A = none ∨ blkOf A ≠ some g := by
  cases hB : blkOf A with
  | none => exact .inl rfl
  | some z => exact .inr fun hh => by cases hh; have := (g2.blk hB).1; have := g5 _ hB; omega
 have hR : ∀ j, j < n -> blkOf (B j) = none ∨ blkOf (B j) ≠ some g := fun j hj => by
  cases hB : blkOf (B j) with
  | none => exact .inl rfl
  | some z => exact .inr fun hh => by cases hh; have := ((g3 j hj).1.blk hB).1; have := g6 j hj _ hB; omega
 exact ⟨g1, B, m, d, ⟨g2.kept hg hA, fun j hj => ⟨(g3 j hj).1.kept hg (hR j hj), (g3 j hj).2⟩, g4⟩, g5, g6⟩
theorem OwMB.set {v : Value} (h : OwMB base hi w A n c ll) (hne : g < base ∨ hi <= g) : OwMB base hi (w.setCell ⟨g, k, none⟩ v) A n c ll := h.kept (gSetM w g k v) hne
end
def compB (x : Int) : Bool := inB x 0 1000 && (x.tmod 25 == 0)
def gRowB (j : Nat) (l : List Int) : Bool := decide (l.length = j) && allB l (-5) 5
def cRowB (j : Nat) (l : List Int) : Bool := decide (l.length = j) && l.all compB
def judgesN (kk : List (List Int)) : Nat := (kk[0]?.getD []).length
def gAllB (gg kk : List (List Int)) : Bool := gg.all (gRowB (judgesN kk))
def cAllB (kk : List (List Int)) : Bool := kk.all (cRowB (judgesN kk))
def marksB (gg kk : List (List Int)) : Bool := decide (kk.length = 3) && decide (gg.length <= 14) && (gAllB gg kk && cAllB kk && inB (judgesN kk) 3 9)
section
variable {gg kk : List (List Int)}
theorem marksB_no3 (h : kk.length ≠ 3) : marksB gg kk = false := by simp [marksB, h]
theorem marksB_no14 (h : 14 < gg.length) : marksB gg kk = false := by simp [marksB]; omega
theorem marksB_noJ (h : inB (judgesN kk) 3 9 = false) : marksB gg kk = false := by simp [marksB, h]
theorem marksB_noG (hk : k < gg.length) (h : gRowB (judgesN kk) (gg[k]?.getD []) = false) : marksB gg kk = false := by
 have : gAllB gg kk = false := all_miss [] hk h;simp [marksB, this]
theorem marksB_noC (hk : k < kk.length) (h : cRowB (judgesN kk) (kk[k]?.getD []) = false) : marksB gg kk = false := by
 have : cAllB kk = false := all_miss [] hk h;simp [marksB, this]
theorem marksB_yes (h3 : kk.length = 3) (h14 : gg.length <= 14) (hg : gAllB gg kk = true) (hc : cAllB kk = true) : marksB gg kk = inB (judgesN kk) 3 9 := by
 simp [marksB, h3, h14, hg, hc]
theorem marksB_of (h : marksB gg kk = true) : kk.length = 3 /\ gg.length <= 14 /\ (3 <= judgesN kk /\ judgesN kk <= 9) /\ ∀ k, k < gg.length -> (gg[k]?.getD []).length = judgesN kk /\ ∀ x ∈ gg[k]?.getD [], -5 <= x /\ x <= 5 := by
 simp only [marksB, Bool.and_eq_true, decide_eq_true_eq] at h;obtain ⟨⟨h3, h14⟩, ⟨hg, _⟩, hj⟩ := h;have hj := inB_iff.1 hj;refine ⟨h3, h14, Om, fun k hk => ?_⟩;have := List.all_eq_true.1 hg _ (getD_mem [] gg k hk);simp only [gRowB, Bool.and_eq_true, decide_eq_true_eq] at this;exact ⟨this.1, allB_of this.2⟩
theorem gRow_of (h : l.length ≠ j) : gRowB j l = false := by simp [gRowB, h]
end
def mod25 (l : List Int) : Bool := l.all fun x => x.tmod 25 == 0
theorem cRow_eq (j : Nat) (l : List Int) : cRowB j l = (mod25 l && (decide (l.length = j) && allB l 0 1000)) := by
 unfold cRowB mod25 allB compB;have : (l.all fun x => inB x 0 1000 && (x.tmod 25 == 0)) = (l.all (fun x => inB x 0 1000) && l.all fun x => x.tmod 25 == 0) := by
  induction l with
  | nil => rfl
  | cons a r ih => simp only [List.all_cons, ih]; cases inB a 0 1000 <;> cases (a.tmod 25 == 0) <;> simp [Bool.and_comm]
 rw [this]
 cases decide (l.length = j) <;> cases l.all (fun x => inB x 0 1000) <;> cases (l.all fun x => x.tmod 25 == 0) <;> rfl
def RdMk (w : World) (A : OA) (n : Nat) (B : OA) (m : Nat) (gg kk : List (List Int)) : Prop :=
 RdM w A n gg /\ RdM w B m kk /\ n <= 1099511627776 /\ m <= 1099511627776 /\ (∀ j, j < n -> (gg[j]?.getD []).length <= 1099511627776) /\ ∀ j, j < m -> (kk[j]?.getD []).length <= 1099511627776
theorem RdMk.below {B : OA} {m : Nat} {gg kk : List (List Int)} (h : RdMk w A n B m gg kk) (hb : Below w.heap.size w w') : RdMk w' A n B m gg kk := ⟨h.1.below hb, h.2.1.below hb, h.2.2⟩
theorem RdM.at_ (h : RdM w A n ll) (k : Nat) (hk : k < n) : ∃ b off B m d, A = some ⟨b, off, none⟩ /\ b < w.heap.size /\ w.cell? ⟨b, off + k, none⟩ = some (.slice B m d) /\ RdI w B m (ll[k]?.getD []) /\ m <= d /\ d <= maxLen := by
 obtain ⟨b, off, e, hlt, hc⟩ := h.2 Om;obtain ⟨B, m, d, h1⟩ := hc k hk;exact ⟨b, off, B, m, d, e, hlt, h1⟩
theorem gRow_len (h : l.length = j) : gRowB j l = allB l (-5) 5 := by simp [gRowB, h]
theorem cRow_len (h : l.length = j) (h2 : mod25 l = true) : cRowB j l = allB l 0 1000 := by rw [cRow_eq]; simp [h, h2]
theorem cRow_ne (h : l.length ≠ j) : cRowB j l = false := by simp [cRowB, h]
theorem cRow_mod (h2 : mod25 l = false) : cRowB j l = false := by rw [cRow_eq]; simp [h2]
theorem mkListG_any (w : World) (A : OA) (n c : Nat) (l : List Int) (j : Nat) (ha : RdI w A n l) (hn : n <= 1099511627776) :
  Calls Tryz.prog 199 #[.slice A n c, .int .i64 j, .bool false] w fun e w' => e = .returned (.bool (gRowB j l)) /\ w = w' := by
 have Hl := Lib.hid ha.len;go_enter Tryz.func199, Tryz.ntmps199;go_wp2
 go_loop [8, 11] (fun _ i => ∃ k : Nat, k <= n /\ i = .int .i64 k) (fun _ i => n - (intOf i).toNat)
 case atStart => exact ⟨0, Om, rfl⟩
 case round =>
  obtain ⟨k, hk, rfl⟩ := hrel;by_cases hlt : k < n
  ·
   obtain ⟨b, off, rfl, hb, hc⟩ := ha.open_ Om;go_wp2
   go_round
   case rel => exact ⟨k + 1, Om, by go_num⟩
   case measure => simp [intOf]; omega
  ·
   by_cases hnj : n = j
   ·
    subst hnj;go_wp2_with (go_at_call 99; (with_reducible refine ep (l1All_any _ _ _ _ _ _ _ ha hn) ?_))
    go_ret;exact ⟨ret_bool (gRow_len Hl.out).symm, rfl⟩
   ·
    have hne : ((n : Int) == (j : Int)) = false := by simp; omega
    go_wp2;go_ret;exact ⟨ret_bool (gRow_of (by rw [Hl.out]; exact hnj)).symm, rfl⟩
theorem mkListC_any (w : World) (A : OA) (n c : Nat) (l : List Int) (j : Nat) (ha : RdI w A n l) (hn : n <= 1099511627776) :
  Calls Tryz.prog 199 #[.slice A n c, .int .i64 j, .bool true] w fun e w' => e = .returned (.bool (cRowB j l)) /\ w = w' := by
 have Hl := Lib.hid ha.len;go_enter Tryz.func199, Tryz.ntmps199;go_wp2
 go_loop [8, 11] (fun _ i => ∃ k : Nat, k <= n /\ i = .int .i64 k /\ Hid ((l.take k).all (fun x => x.tmod 25 == 0) = true)) (fun _ i => n - (intOf i).toNat)
 case atStart => exact ⟨0, Om, rfl, rfl⟩
 case round =>
  obtain ⟨k, hk, rfl, HT⟩ := hrel;by_cases hlt : k < n
  ·
   obtain ⟨b, off, rfl, hb, hc⟩ := ha.open_ Om;have hck := hc k hlt;clear hc;obtain ⟨x, hx⟩ : ∃ x, l.getD k 0 = x := ⟨_, rfl⟩;rw [hx] at hck;rw [List.getD_eq_getElem?_getD] at hx;have HX := Lib.hid hx;clear hx;by_cases hr : x.tmod 25 = 0
   ·
    have Hr := Lib.hid hr;go_wp2
    go_round
    case rel => exact ⟨k + 1, Om, by go_num, all_step 0 (by rw [Hl.out]; exact hlt) HT.out (by rw [HX.out, Hr.out]; rfl)⟩
    case measure => simp [intOf]; omega
   ·
    have hr' : (x.tmod 25 != 0) = true := by simpa using hr
    have Hr := Lib.hid hr;go_wp2;go_ret;exact ⟨ret_bool (cRow_mod (all_miss 0 (k := k) (by rw [Hl.out]; exact hlt) (by rw [HX.out]; simpa using Hr.out))).symm, rfl⟩
  ·
   have HM := Lib.hid (all_end HT.out (by rw [Hl.out]; omega));by_cases hnj : n = j
   ·
    subst hnj;go_wp2_with (go_at_call 99; (with_reducible refine ep (l1All_any _ _ _ _ _ _ _ ha hn) ?_))
    go_ret;exact ⟨ret_bool (cRow_len Hl.out HM.out).symm, rfl⟩
   ·
    have hne : ((n : Int) == (j : Int)) = false := by simp; omega
    go_wp2;go_ret;exact ⟨ret_bool (cRow_ne (by rw [Hl.out]; exact hnj)).symm, rfl⟩
theorem isComponentMark_any (x : Int) (w : World) :
  Calls Tryz.prog 182 #[.int .i64 x] w fun e w' => e = .returned (.bool (compB x)) /\ w = w' := by
 unfold compB
 cases h1 : inB x 0 1000
 ·
  go_enter Tryz.func182, Tryz.ntmps182;go_wp2_with (go_at_call 64; (with_reducible refine ep (within_any _ _ _ _) ?_))
  go_ret;exact ⟨rfl, rfl⟩
 ·
  go_enter Tryz.func182, Tryz.ntmps182;go_wp2_with (go_at_call 64; (with_reducible refine ep (within_any _ _ _ _) ?_))
  go_ret;exact ⟨rfl, rfl⟩
theorem isMarksF_any (x : Int) (w : World) :
  Calls Tryz.prog 181 #[.int .i64 x] w fun e w' => e = .returned (.bool (!compB x)) /\ w = w' := by
 go_enter Tryz.func181, Tryz.ntmps181;go_wp2_with (go_at_call 182; (with_reducible refine ep (isComponentMark_any _ _) ?_))
 go_ret;exact ⟨rfl, rfl⟩
def IdxAt (w : World) (b : Bool) (e : Ending) (w' : World) : Prop := ∃ (i : Int), e = .returned (.int .i64 i) /\ w = w' /\ decide (0 <= i) = b
def badB (l : List Int) : Bool := l.any fun x => !compB x
theorem badB_eq (l : List Int) : badB l = !l.all compB := by
 unfold badB
 induction l with
 | nil => rfl
 | cons a r ih => simp only [List.any_cons, List.all_cons, ih, Bool.not_and]
theorem cRow_bad (h : l.length = j) : cRowB j l = !badB l := by rw [badB_eq]; simp [cRowB, h]
theorem indexBad_any (w : World) (A : OA) (n c : Nat) (l : List Int) (ha : RdI w A n l) (hn : n <= 1099511627776) :
  Calls Tryz.prog 219 #[.slice A n c, .func (.func 181) #[] #[]] w (IdxAt w (badB l)) := by
 have Hl := Lib.hid ha.len;unfold badB;go_enter Tryz.func219, Tryz.ntmps219;go_wp2
 go_loop [5, 8] (fun _ i => ∃ k : Nat, k <= n /\ i = .int .i64 k /\ Hid ((l.take k).any (fun x => !compB x) = false)) (fun _ i => n - (intOf i).toNat)
 case atStart => exact ⟨0, Om, rfl, rfl⟩
 case round =>
  obtain ⟨k, hk, rfl, HT⟩ := hrel;by_cases hlt : k < n
  ·
   obtain ⟨b, off, rfl, hb, hc⟩ := ha.open_ Om;go_wp2_with (go_at_call 181; (with_reducible refine ep (isMarksF_any _ _) ?_))
   ·
    have hh : (!compB (l[k]?.getD 0)) = true := by assumption
    go_ret;exact ⟨k, rfl, rfl, by rw [any_hit 0 (by rw [Hl.out]; exact hlt) hh]; simp⟩
   ·
    have hh : (!compB (l[k]?.getD 0)) = false := by assumption
    go_round
    case rel => exact ⟨k + 1, Om, by go_num, any_step 0 (by rw [Hl.out]; exact hlt) HT.out hh⟩
    case measure => simp [intOf]; omega
  ·
   have Hend := Lib.hid (any_end HT.out (by rw [Hl.out]; omega));go_wp2;go_ret;exact ⟨-1, rfl, rfl, by rw [Hend.out]; rfl⟩
theorem containsBad_any (w : World) (A : OA) (n c : Nat) (l : List Int) (ha : RdI w A n l) (hn : n <= 1099511627776) :
  Calls Tryz.prog 180 #[.slice A n c, .func (.func 181) #[] #[]] w fun e w' => e = .returned (.bool (badB l)) /\ w = w' := by
 go_enter Tryz.func180, Tryz.ntmps180;go_wp2_with (go_at_call 219; ((with_reducible refine (indexBad_any _ _ _ _ _ ha hn).mono ?_); rintro e w' ⟨i, rfl, rfl, hi⟩))
 go_ret;exact ⟨by simp_all, rfl⟩
theorem mkJudges_any (w : World) (A B : OA) (n m c d : Nat) (gg kk : List (List Int)) (hm : RdMk w A n B m gg kk) (h0 : 0 < m) :
  Calls Tryz.prog 177 #[.agg #[.slice A n c, .slice B m d]] w fun e w' => e = .returned (.int .i64 (judgesN kk)) /\ ∃ x, w' = ext w x := by
 obtain ⟨b, off, B0, m0, d0, rfl, hb, hc, hr, _, _⟩ := hm.2.1.at_ 0 h0;have hj : judgesN kk = m0 := hr.len;rw [hj];rw [Nat.add_zero] at hc;clear hj hr;go_enter Tryz.func177, Tryz.ntmps177;go_wp2;go_ret;exact ⟨rfl, ext_ex bL⟩
theorem judgesOf_any (w : World) (A B : OA) (n m c d : Nat) (gg kk : List (List Int)) (hm : RdMk w A n B m gg kk) (h0 : 0 < m) :
  Calls Tryz.prog 179 #[.agg #[.slice A n c, .slice B m d]] w fun e w' => e = .returned (.int .i64 (judgesN kk)) /\ ∃ x, w' = ext w x := by
 obtain ⟨b, off, B0, m0, d0, rfl, hb, hc, hr, _, _⟩ := hm.2.1.at_ 0 h0;have hj : judgesN kk = m0 := hr.len;rw [hj];rw [Nat.add_zero] at hc;clear hj hr;go_enter Tryz.func179, Tryz.ntmps179;go_wp2;go_ret;exact ⟨rfl, ext_ex bL⟩
theorem mkAll_any (w : World) (A B : OA) (n m c d : Nat) (gg kk : List (List Int)) (hm : RdMk w A n B m gg kk) :
  Calls Tryz.prog 151 #[.agg #[.slice A n c, .slice B m d]] w fun e w' => e = .returned (.bool (marksB gg kk)) /\ ∃ x, w' = ext w x := by
 have hmk := hm;obtain ⟨hA, hB, hn, hm40, hrg, hrk⟩ := hm;have HlA := Lib.hid hA.len;have HlB := Lib.hid hB.len;by_cases h3 : m = 3
 case neg =>
  have h3' : ((m : Int) != 3) = true := by simp; omega
  have Hno := Lib.hid (marksB_no3 (gg := gg) (show kk.length ≠ 3 by rw [HlB.out]; exact h3));go_enter Tryz.func151, Tryz.ntmps151;go_wp2
  all_goals go_ret
  all_goals exact ⟨ret_bool Hno.out.symm, ext_ex bL⟩
 have h3' : ((m : Int) != 3) = false := by simp; omega
 by_cases h14 : n <= 14
 case neg =>
  have h14' : (14 : Int) < n := Om;have Hno := Lib.hid (marksB_no14 (gg := gg) (kk := kk) (show 14 < gg.length by rw [HlA.out]; omega));go_enter Tryz.func151, Tryz.ntmps151;go_wp2;go_ret;exact ⟨ret_bool Hno.out.symm, ext_ex bL⟩
 have h14' : ¬ (14 : Int) < n := Om;obtain ⟨b, off, B0, m0, d0, rfl, hb, hc, hr, _, _⟩ := hB.at_ 0 Om;have hm0 : 0 < m := Om;have HJ := Lib.hid (show judgesN kk = m0 from hr.len);have H3 := Lib.hid h3;rw [Nat.add_zero] at hc;clear hr h3;go_enter Tryz.func151, Tryz.ntmps151;go_wp2
 go_loopw [5, 26] (fun _ i wr => ∃ (k : Nat) (x : World), k <= n /\ i = .int .i64 k /\ wr = ext (w.alloc (.cells #[.slice A n c, .slice (some ⟨b, off, none⟩) m d] 31)) x /\ Hid ((gg.take k).all (gRowB m0) = true)) (fun _ i _ => n - (intOf i).toNat)
 case atStart => exact ⟨0, _, Om, rfl, ext_self _, rfl⟩
 case round =>
  obtain ⟨k, xG, hk, rfl, rfl, HT⟩ := hrel;by_cases hlt : k < n
  ·
   obtain ⟨b1, o1, B1, m1, d1, rfl, hb1, hc1, hr, _, _⟩ := hA.at_ k hlt
   skip
   have hrb : m1 <= 1099511627776 := by have := hrg k hlt; rw [hr.len] at this; exact this
   obtain ⟨lk, hlk⟩ : ∃ lk, gg[k]?.getD [] = lk := ⟨_, rfl⟩;rw [hlk] at hr;have HL := Lib.hid hlk;clear hlk;go_wp2_with (first | (go_at_call 199; (with_reducible refine ep (mkListG_any _ _ _ _ _ _ (hr.below bL) hrb) ?_)))
   ·
    have hh : (!gRowB m0 lk) = true := by assumption
    go_ret;exact ⟨ret_bool (marksB_noG (k := k) (by rw [HlA.out]; exact hlt) (by rw [HJ.out, HL.out]; simpa using hh)).symm, ext_ex bL⟩
   ·
    have hh : (!gRowB m0 lk) = false := by assumption
    go_roundw
    case rel => exact ⟨k + 1, _, Om, by go_num, (ext_ex bL).choose_spec, all_step [] (by rw [HlA.out]; exact hlt) HT.out (by rw [HL.out]; simpa using hh)⟩
    case measure => simp [intOf]; omega
  ·
   have HGA := Lib.hid (show gg.all (gRowB m0) = true from all_end HT.out (by rw [HlA.out]; omega));go_wp2
   go_loopw [7, 38] (fun _ i wr => ∃ (k : Nat) (x : World), k <= m /\ i = .int .i64 k /\ wr = ext (w.alloc (.cells #[.slice A n c, .slice (some ⟨b, off, none⟩) m d] 31)) x /\ Hid ((kk.take k).all (cRowB m0) = true)) (fun _ i _ => m - (intOf i).toNat)
   case atStart => exact ⟨0, _, Om, rfl, rfl, rfl⟩
   case round =>
    obtain ⟨k, xC, hk, rfl, rfl, HT⟩ := hrel;by_cases hlt : k < m
    ·
     obtain ⟨b1, o1, B1, m1, d1, hbe, hb1, hc1, hr, _, _⟩ := hB.at_ k hlt;injection hbe with hbe; injection hbe with hbe1 hbe2; subst hbe1 hbe2;have hrb : m1 <= 1099511627776 := by have := hrk k hlt; rw [hr.len] at this; exact this
     obtain ⟨lk, hlk⟩ : ∃ lk, kk[k]?.getD [] = lk := ⟨_, rfl⟩;rw [hlk] at hr;have HL := Lib.hid hlk;clear hlk;go_wp2_with (first | (go_at_call 199; (with_reducible refine ep (mkListC_any _ _ _ _ _ _ (hr.below bL) hrb) ?_)))
     ·
      have hh : (!cRowB m0 lk) = true := by assumption
      go_ret;exact ⟨ret_bool (marksB_noC (k := k) (by rw [HlB.out]; exact hlt) (by rw [HJ.out, HL.out]; simpa using hh)).symm, ext_ex bL⟩
     ·
      have hh : (!cRowB m0 lk) = false := by assumption
      go_roundw
      case rel => exact ⟨k + 1, _, Om, by go_num, (ext_ex bL).choose_spec, all_step [] (by rw [HlB.out]; exact hlt) HT.out (by rw [HL.out]; simpa using hh)⟩
      case measure => simp [intOf]; omega
    ·
     have HCA := Lib.hid (show kk.all (cRowB m0) = true from all_end HT.out (by rw [HlB.out]; omega));have Hfin := Lib.hid (show marksB gg kk = inB m0 3 9 by rw [marksB_yes (by rw [HlB.out, H3.out]) (by rw [HlA.out]; exact h14) (by rw [gAllB, HJ.out]; exact HGA.out) (by rw [cAllB, HJ.out]; exact HCA.out), HJ.out]);go_wp2_with (go_at_call 60; (with_reducible refine ep (l1In_any _ _ _ _) ?_))
     go_ret;exact ⟨ret_bool Hfin.out.symm, ext_ex bL⟩
theorem isMarks_any (w : World) (A B : OA) (n m c d : Nat) (gg kk : List (List Int)) (hm : RdMk w A n B m gg kk) :
  Calls Tryz.prog 128 #[.agg #[.slice A n c, .slice B m d]] w fun e w' => e = .returned (.bool (marksB gg kk)) /\ ∃ x, w' = ext w x := by
 have hmk := hm;obtain ⟨hA, hB, hn, hm40, hrg, hrk⟩ := hm;have HlA := Lib.hid hA.len;have HlB := Lib.hid hB.len;by_cases h3 : m = 3
 case neg =>
  have h3' : ((m : Int) != 3) = true := by simp; omega
  have Hno := Lib.hid (marksB_no3 (gg := gg) (show kk.length ≠ 3 by rw [HlB.out]; exact h3));go_enter Tryz.func128, Tryz.ntmps128;go_wp2
  all_goals go_ret
  all_goals exact ⟨ret_bool Hno.out.symm, ext_ex bL⟩
 have h3' : ((m : Int) != 3) = false := by simp; omega
 by_cases h14 : n <= 14
 case neg =>
  have h14' : (14 : Int) < n := Om;have Hno := Lib.hid (marksB_no14 (gg := gg) (kk := kk) (show 14 < gg.length by rw [HlA.out]; omega));go_enter Tryz.func128, Tryz.ntmps128;go_wp2;go_ret;exact ⟨ret_bool Hno.out.symm, ext_ex bL⟩
 have h14' : ¬ (14 : Int) < n := Om;obtain ⟨b, off, B0, m0, d0, rfl, hb, hc, hr, _, _⟩ := hB.at_ 0 Om;have hm0 : 0 < m := Om;have HJ := Lib.hid (show judgesN kk = m0 from hr.len);have H3 := Lib.hid h3;rw [Nat.add_zero] at hc;clear hr h3
 cases hj : inB m0 3 9
 ·
  have Hno := Lib.hid (marksB_noJ (gg := gg) (kk := kk) (by rw [HJ.out]; exact hj));go_enter Tryz.func128, Tryz.ntmps128;go_wp2_with (go_at_call 64; (with_reducible refine ep (within_any _ _ _ _) ?_))
  go_ret;exact ⟨ret_bool Hno.out.symm, ext_ex bL⟩
 go_enter Tryz.func128, Tryz.ntmps128;go_wp2_with (go_at_call 64; (with_reducible refine ep (within_any _ _ _ _) ?_))
 go_loopw [4, 29] (fun _ i wr => ∃ (k : Nat) (x : World), k <= n /\ i = .int .i64 k /\ wr = ext (w.alloc (.cells #[.slice A n c, .slice (some ⟨b, off, none⟩) m d] 31)) x /\ Hid ((gg.take k).all (gRowB m0) = true)) (fun _ i _ => n - (intOf i).toNat)
 case atStart => exact ⟨0, _, Om, rfl, ext_self _, rfl⟩
 case round =>
  obtain ⟨k, xG, hk, rfl, rfl, HT⟩ := hrel;by_cases hlt : k < n
  ·
   obtain ⟨b1, o1, B1, m1, d1, rfl, hb1, hc1, hr, _, _⟩ := hA.at_ k hlt
   skip
   have hrb : m1 <= 1099511627776 := by have := hrg k hlt; rw [hr.len] at this; exact this
   obtain ⟨lk, hlk⟩ : ∃ lk, gg[k]?.getD [] = lk := ⟨_, rfl⟩;rw [hlk] at hr;have HL := Lib.hid hlk;clear hlk;by_cases hm1 : m1 = m0
   ·
    have hq : ((m1 : Int) != (m0 : Int)) = false := by simp; omega
    have hrl : lk.length = m0 := by rw [hr.len]; exact hm1
    have Hrl := Lib.hid (gRow_len hrl);clear hrl hm1;go_wp2_with (first | (go_at_call 179; ((with_reducible refine (judgesOf_any _ _ _ _ _ _ _ _ _ (hmk.below bL) hm0).mono ?_); rintro e w' ⟨rfl, z, rfl⟩; rw [HJ.out])) | (go_at_call 84; (with_reducible refine ep (allWithin_any _ _ _ _ _ _ _ (hr.below bL) hrb) ?_)))
    ·
     have hh : (!allB lk (-5) 5) = true := by assumption
     go_ret;exact ⟨ret_bool (marksB_noG (k := k) (by rw [HlA.out]; exact hlt) (by rw [HJ.out, HL.out, Hrl.out]; simpa using hh)).symm, ext_ex bL⟩
    ·
     have hh : (!allB lk (-5) 5) = false := by assumption
     go_roundw
     case rel => exact ⟨k + 1, _, Om, by go_num, (ext_ex bL).choose_spec, all_step [] (by rw [HlA.out]; exact hlt) HT.out (by rw [HL.out, Hrl.out]; simpa using hh)⟩
     case measure => simp [intOf]; omega
   ·
    have hq : ((m1 : Int) != (m0 : Int)) = true := by simp; omega
    have Hrl := Lib.hid (gRow_of (l := lk) (j := m0) (by rw [hr.len]; exact hm1));clear hm1;go_wp2_with (first | (go_at_call 179; ((with_reducible refine (judgesOf_any _ _ _ _ _ _ _ _ _ (hmk.below bL) hm0).mono ?_); rintro e w' ⟨rfl, z, rfl⟩; rw [HJ.out])))
    go_ret;exact ⟨ret_bool (marksB_noG (k := k) (by rw [HlA.out]; exact hlt) (by rw [HJ.out, HL.out, Hrl.out])).symm, ext_ex bL⟩
  ·
   have HGA := Lib.hid (show gg.all (gRowB m0) = true from all_end HT.out (by rw [HlA.out]; omega));go_wp2
   go_loopw [6, 47] (fun _ i wr => ∃ (k : Nat) (x : World), k <= m /\ i = .int .i64 k /\ wr = ext (w.alloc (.cells #[.slice A n c, .slice (some ⟨b, off, none⟩) m d] 31)) x /\ Hid ((kk.take k).all (cRowB m0) = true)) (fun _ i _ => m - (intOf i).toNat)
   case atStart => exact ⟨0, _, Om, rfl, rfl, rfl⟩
   case round =>
    obtain ⟨k, xC, hk, rfl, rfl, HT⟩ := hrel;by_cases hlt : k < m
    ·
     obtain ⟨b1, o1, B1, m1, d1, hbe, hb1, hc1, hr, _, _⟩ := hB.at_ k hlt;injection hbe with hbe; injection hbe with hbe1 hbe2; subst hbe1 hbe2;have hrb : m1 <= 1099511627776 := by have := hrk k hlt; rw [hr.len] at this; exact this
     obtain ⟨lk, hlk⟩ : ∃ lk, kk[k]?.getD [] = lk := ⟨_, rfl⟩;rw [hlk] at hr;have HL := Lib.hid hlk;clear hlk;by_cases hm1 : m1 = m0
     ·
      have hq : ((m1 : Int) != (m0 : Int)) = false := by simp; omega
      have hrl : lk.length = m0 := by rw [hr.len]; exact hm1
      have Hrl := Lib.hid (cRow_bad hrl);clear hrl hm1;go_wp2_with (first | (go_at_call 179; ((with_reducible refine (judgesOf_any _ _ _ _ _ _ _ _ _ (hmk.below bL) hm0).mono ?_); rintro e w' ⟨rfl, z, rfl⟩; rw [HJ.out])) | (go_at_call 180; (with_reducible refine ep (containsBad_any _ _ _ _ _ (hr.below bL) hrb) ?_)))
      ·
       have hh : badB lk = true := by assumption
       go_ret;exact ⟨ret_bool (marksB_noC (k := k) (by rw [HlB.out]; exact hlt) (by rw [HJ.out, HL.out, Hrl.out]; simpa using hh)).symm, ext_ex bL⟩
      ·
       have hh : badB lk = false := by assumption
       go_roundw
       case rel => exact ⟨k + 1, _, Om, by go_num, (ext_ex bL).choose_spec, all_step [] (by rw [HlB.out]; exact hlt) HT.out (by rw [HL.out, Hrl.out]; simpa using hh)⟩
       case measure => simp [intOf]; omega
     ·
      have hq : ((m1 : Int) != (m0 : Int)) = true := by simp; omega
      have Hrl := Lib.hid (cRow_ne (l := lk) (j := m0) (by rw [hr.len]; exact hm1));clear hm1;go_wp2_with (first | (go_at_call 179; ((with_reducible refine (judgesOf_any _ _ _ _ _ _ _ _ _ (hmk.below bL) hm0).mono ?_); rintro e w' ⟨rfl, z, rfl⟩; rw [HJ.out])))
      go_ret;exact ⟨ret_bool (marksB_noC (k := k) (by rw [HlB.out]; exact hlt) (by rw [HJ.out, HL.out, Hrl.out])).symm, ext_ex bL⟩
    ·
     have HCA := Lib.hid (show kk.all (cRowB m0) = true from all_end HT.out (by rw [HlB.out]; omega));have Hfin := Lib.hid (show marksB gg kk = inB m0 3 9 by rw [marksB_yes (by rw [HlB.out, H3.out]) (by rw [HlA.out]; exact h14) (by rw [gAllB, HJ.out]; exact HGA.out) (by rw [cAllB, HJ.out]; exact HCA.out), HJ.out]);rw [hj] at Hfin;go_wp2;go_ret;exact ⟨ret_bool Hfin.out.symm, ext_ex bL⟩
structure Mid (lo hi : Nat) (w w' : World) : Prop where
 os : w'.os = w.os
 tape : w'.tape = w.tape
 output : w'.output = w.output
 size : w.heap.size <= w'.heap.size
 block : ∀ k, k < w.heap.size -> k < lo ∨ hi <= k -> w'.heap[k]? = w.heap[k]?
section
variable {lo hi : Nat} {w w' w'' R : World}
theorem Mid.of_grown {row : Option Nat} (h : w.grownBy w' row) (hr : ∀ k, row = some k -> lo <= k /\ k < hi) : Mid lo hi w w' :=
 ⟨h.os, h.tape, h.output, h.size, fun k hk hn => h.block k hk (fun e => by have := hr k e.symm; omega)⟩
theorem Ow.keptM (h : Ow e s base w A n c xs) (hg : Mid lo hi w w') (hn : ∀ g, blkOf A = some g -> g < lo ∨ hi <= g) : Ow e s base w' A n c xs := by
 refine ⟨h.1, ?_⟩
 rcases h.2 with hnil | ⟨g, cap, cur, hv, hb, hgg, rest⟩
 ·
  exact .inl hnil
 ·
  refine .inr ⟨g, cap, cur, hv, hb, ?_, rest⟩;simp at hv;rw [hg.block g (Array.getElem?_eq_some_iff.1 hgg).1 (hn g (by rw [hv.1]; rfl))];exact hgg
theorem OwI.keptM (h : OwI base w A n c l) (hg : Mid lo hi w w') (hn : ∀ g, blkOf A = some g -> g < lo ∨ hi <= g) : OwI base w' A n c l := Ow.keptM h hg hn
end
theorem OwMB.row {l' : List Int} {B0 : OA} {m0 d0 : Nat}
  (h : OwMB base hi w A n c ll) (hk : k < n)
  (hf : ∀ (B : Nat -> OA) (m d : Nat -> Nat), Ow 25 1 base w A n c ((List.range n).map fun j => .slice (B j) (m j) (d j)) -> B k = B0 /\ m k = m0 /\ d k = d0)
  (ho : OwI base w' B0 m0 d0 l') (hg : w.grownBy w' (blkOf B0)) : OwMB base hi w' A n c (ll.set k l') /\ Mid base hi w w' := by
 obtain ⟨g1, B, m, d, ⟨g2, g3, g4⟩, g5, g6⟩ := h;obtain ⟨e1, e2, e3⟩ := hf B m d g2;refine ⟨⟨by simpa using g1, B, m, d, ⟨?_, fun j hj => ⟨?_, (g3 j hj).2⟩, g4⟩, g5, g6⟩, ?_⟩
 ·
  refine g2.kept hg ?_;have := (g3 k hk).2;rw [e1] at this
  rcases this with h0 | h0
  ·
   rw [h0]
   cases blkOf A <;> simp
  ·
   exact .inr fun h => h0 h.symm
 ·
  by_cases e : j = k
  ·
   subst e;have : (ll.set j l')[j]?.getD [] = l' := by simp [g1, hj]
   rw [this, e1, e2, e3];exact ho
  ·
   have : (ll.set k l')[j]?.getD [] = ll[j]?.getD [] := by rw [List.getElem?_set_ne (fun h => e h.symm)]
   rw [this];refine (g3 j hj).1.kept hg ?_;have := g4 j k hj hk e;rw [e1] at this;exact this
 ·
  refine Mid.of_grown hg fun z hz => ?_
  have h1 := (g3 k hk).1;have h2 := g6 k hk z (by rw [e1]; exact hz);rw [e1, e2, e3] at h1;exact ⟨(h1.blk hz).1, h2⟩
theorem OwMB.at_ (h : OwMB base hi w A n c ll) (k : Nat) (hk : k < n) :
  ∃ g B0 m0 d0, A = some ⟨g, 0, none⟩ /\ g < w.heap.size /\ w.cell? ⟨g, k, none⟩ = some (.slice B0 m0 d0) /\ OwI base w B0 m0 d0 (ll[k]?.getD []) /\
   ∀ (w' : World) (l' : List Int), OwI base w' B0 m0 d0 l' -> w.grownBy w' (blkOf B0) -> OwMB base hi w' A n c (ll.set k l') /\ Mid base hi w w' := by
 have h0 := h;obtain ⟨g1, B, m, d, ⟨g2, g3, g4⟩, g5, g6⟩ := h;obtain ⟨g, rfl, hb, hz⟩ := g2.form_ Om;have hcell : ∀ (B : Nat -> OA) (m d : Nat -> Nat), Ow 25 1 base w (some ⟨g, 0, none⟩) n c ((List.range n).map fun j => .slice (B j) (m j) (d j)) -> w.cell? ⟨g, k, none⟩ = some (.slice (B k) (m k) (d k)) := fun B m d h => by
  rw [Ow.cell_ h k Om]; simp [hk]
 refine ⟨g, B k, m k, d k, rfl, hz, hcell B m d g2, (g3 k hk).1, fun w' l' ho hg => h0.row hk (fun B' m' d' h' => ?_) ho hg⟩;have e := (hcell B' m' d' h').symm.trans (hcell B m d g2);simp at e;exact e
theorem OwMB.keptM {lo' hi' : Nat} (h : OwMB base hi w A n c ll) (hg : Mid lo' hi' w w') (hd : hi' <= base ∨ hi <= lo') : OwMB base hi w' A n c ll := by
 obtain ⟨g1, B, m, d, ⟨g2, g3, g4⟩, g5, g6⟩ := h;exact ⟨g1, B, m, d, ⟨g2.keptM hg (fun g hg' => by have := (g2.blk hg').1; have := g5 g hg'; omega), fun j hj => ⟨(g3 j hj).1.keptM hg (fun g hg' => by have := ((g3 j hj).1.blk hg').1; have := g6 j hj g hg'; omega), (g3 j hj).2⟩, g4⟩, g5, g6⟩
section
variable {base hi n m c d : Nat} {w w' : World} {A B : OA} {gg kk : List (List Int)}
end
end Go.Proofs.YtlfhhkgleapamaaGreatDoor
