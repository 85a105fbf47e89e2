/- Cues: their key, the program's comparison, the reference's comparison, append of cues. Conditions: times below 2000000, kinds 1 to 4. -/
import Derived.Test.YtpjaiihkgeabiaaDoorStableC8
import Derived.Test.YtpjaiihkgeabiaaDoorInts
import Derived.Deep.RegionLaw
set_option linter.unusedVariables false
set_option linter.unusedSimpArgs false
set_option maxRecDepth 100000
namespace Go.Proofs.YtpjaiihkgeabiaaDoor
open Go.RowKit
def ordK (k : Int) : Int := (k + 1) % 4
def cKey (q : T3) : Int := 4 * q.1 + ordK q.2.1
def cueOk (q : T3) : Prop := (0 ≤ q.1 ∧ q.1 ≤ 2000000) ∧ (1 ≤ q.2.1 ∧ q.2.1 ≤ 4)
theorem ordK_bd (k : Int) : 0 ≤ ordK k ∧ ordK k ≤ 3 := by unfold ordK; omega
theorem cKey_lt (p q : T3) : cKey p < cKey q ↔ (p.1 < q.1 ∨ p.1 = q.1 ∧ ordK p.2.1 < ordK q.2.1) := by
  have h1 := ordK_bd p.2.1
  have h2 := ordK_bd q.2.1
  unfold cKey; omega
theorem quiet_same {P : Program} {f : FuncId} {args : Array Value} {w : World} {n : Nat} {v : Value}
    (h : Calls P f args (w.drewN n) fun e w' => e = .returned v ∧ w.drewN n = w') : Calls P f args (w.drewN n) fun e w'' => e = .returned v ∧ ∃ m, w'' = w.drewN m :=
  h.mono fun _ _ ⟨he, hm⟩ => ⟨he, n, hm.symm⟩
theorem kindOrder_any (k : Int) (w : World) (h : 1 ≤ k ∧ k ≤ 4) : Calls Tryd.prog 102 #[.int .i64 k] w fun e w' => e = .returned (.int .i64 (ordK k)) ∧ w = w' := by
  rcases (show k = 1 ∨ k = 2 ∨ k = 3 ∨ k = 4 by omega) with e | e | e | e
  all_goals
    subst e
    go_enter Tryd.func102, Tryd.ntmps102
    go_wp2
    go_ret
    exact ⟨rfl, rfl⟩
def CmpPost (x y : T3) (w : World) (e : Ending) (w' : World) : Prop := ∃ r : Int, ((cKey x < cKey y → r < 0) ∧ (cKey y ≤ cKey x → 0 ≤ r)) ∧ e = .returned (.int .i64 r) ∧ ∃ z, w' = ext w z
theorem cueF_any (w : World) (x y : T3) (hx : cueOk x) (hy : cueOk y) :
    Calls Tryd.prog 101 #[.agg #[.int .i64 x.1, .int .i64 x.2.1, .int .i64 x.2.2], .agg #[.int .i64 y.1, .int .i64 y.2.1, .int .i64 y.2.2]] w (CmpPost x y w) := by
  obtain ⟨⟨hx1, hx2⟩, hx3, hx4⟩ := hx
  obtain ⟨⟨hy1, hy2⟩, hy3, hy4⟩ := hy
  have HL := Lib.hid (cKey_lt x y)
  have o1 := ordK_bd x.2.1
  have o2 := ordK_bd y.2.1
  by_cases he : x.1 = y.1
  · have hw : IntKind.i64.wrap (ordK x.2.1 - ordK y.2.1) = ordK x.2.1 - ordK y.2.1 := IntWalk.i64_in _ (by omega)
    have hne : (x.1 != y.1) = false := by simp [he]
    have HE := Lib.hid he
    clear he
    go_enter Tryd.func101, Tryd.ntmps101
    go_wp2
    go_quiet ((go_at_call 102; exact quiet_same (kindOrder_any _ _ (by constructor <;> assumption))))
    go_wp2
    go_ret
    exact ⟨ordK x.2.1 - ordK y.2.1, ⟨fun h => by have := HL.out.1 h; have := HE.out; omega, fun h => by have h1 := mt HL.out.2 (Int.not_lt.2 h); have := HE.out; omega⟩, rfl, ext_ex (by repeat (first | exact Below.refl _ _ | assumption | refine bExt ?_ _ | refine bAlloc ?_ _ | refine bDrewN ?_ _ | refine bDrew ?_ | refine bSet ?_ (by first | exact Nat.le_refl _ | omega | (simp; done) | (simp; omega)) _))⟩
  · have hne : (x.1 != y.1) = true := by simp [he]
    have HE := Lib.hid he
    clear he
    go_enter Tryd.func101, Tryd.ntmps101
    go_wp2
    go_ret
    exact ⟨x.1 - y.1, ⟨fun h => by have := HL.out.1 h; have := HE.out; omega, fun h => by have h1 := mt HL.out.2 (Int.not_lt.2 h); have := HE.out; omega⟩, rfl, ext_ex (by repeat (first | exact Below.refl _ _ | assumption | refine bExt ?_ _ | refine bAlloc ?_ _ | refine bDrewN ?_ _ | refine bDrew ?_ | refine bSet ?_ (by first | exact Nat.le_refl _ | omega | (simp; done) | (simp; omega)) _))⟩
theorem cueCmp {D : List T3} (h : ∀ q ∈ D, cueOk q) : CmpC cKey D := fun w' x y hx hy => cueF_any w' x y (h x hx) (h y hy)
theorem srBefore_any (w : World) (x y : T3) (hx : cueOk x) (hy : cueOk y) :
    Calls Tryd.prog 105 #[.agg #[.int .i64 x.1, .int .i64 x.2.1, .int .i64 x.2.2], .agg #[.int .i64 y.1, .int .i64 y.2.1, .int .i64 y.2.2]] w fun e w' => e = .returned (.bool (decide (cKey x < cKey y))) ∧ ∃ z, w' = ext w z := by
  obtain ⟨⟨hx1, hx2⟩, hx3, hx4⟩ := hx
  obtain ⟨⟨hy1, hy2⟩, hy3, hy4⟩ := hy
  have HL := Lib.hid (cKey_lt x y)
  unfold ordK at HL
  by_cases he : x.1 = y.1
  · have hne : (x.1 != y.1) = false := by simp [he]
    have HE := Lib.hid he
    clear he
    go_enter Tryd.func105, Tryd.ntmps105
    go_wp2
    go_ret
    refine ⟨ret_bool ?_, ext_ex (by repeat (first | exact Below.refl _ _ | assumption | refine bExt ?_ _ | refine bAlloc ?_ _ | refine bDrewN ?_ _ | refine bDrew ?_ | refine bSet ?_ (by first | exact Nat.le_refl _ | omega | (simp; done) | (simp; omega)) _))⟩
    rw [decide_eq_decide, HL.out, HE.out]; omega
  · have hne : (x.1 != y.1) = true := by simp [he]
    have HE := Lib.hid he
    clear he
    go_enter Tryd.func105, Tryd.ntmps105
    go_wp2
    go_ret
    refine ⟨ret_bool ?_, ext_ex (by repeat (first | exact Below.refl _ _ | assumption | refine bExt ?_ _ | refine bAlloc ?_ _ | refine bDrewN ?_ _ | refine bDrew ?_ | refine bSet ?_ (by first | exact Nat.le_refl _ | omega | (simp; done) | (simp; omega)) _))⟩
    rw [decide_eq_decide, HL.out]; have := HE.out; omega
theorem OwC.lit_ {R w : World} (hR : Below R.heap.size R w) (l : List T3) (hl : l.length ≤ maxLen) (cs : Array Value) (hcs : cs.toList = tripCells l) :
    Ow3 62 R.heap.size (w.alloc (.cells cs 62)) (some ⟨w.heap.size, 0, none⟩) l.length l.length l := by
  have hs : cs.size = l.length * 3 := by rw [← Array.length_toList, hcs, tripCells_len]
  have := World.ownsRow_lit (base := R.heap.size) (e := 62) (size := 3) w cs l.length hR.size hl hs
  rw [hcs] at this
  exact this
/-- append of cues as a step of a region that draws its order. -/
theorem step_app_cue {ops : Array Oper} {o : Oper} {a : Act} {K : Act → World → Prop} {Q : Exit → Act → World → Prop} {E : Prop} (R : World) {W : World} (hgd : o.guard = none) (s x : Operand) (ho : o.op = .call { callee := .builtin .append, args := #[s, x], argTypes := #[56, 56] })
    (A : Option Addr) (n c : Nat) (l : List T3) (hs : a.eval s = .slice A n c) {W₀ : World} (hown₀ : Ow3 62 R.heap.size W₀ A n c l) (hW₀ : Below W₀.heap.size W₀ W) (hR : Below R.heap.size R W)
    (B : Option Addr) (m d : Nat) (r : List T3) (hx : a.eval x = .slice B m d) {W₁ : World} (hr₁ : Rd3 W₁ B m r) (hW₁ : Below W₁.heap.size W₁ W) (hn : n + m ≤ 1099511627776)
    (h : ∀ A' c' y, Ow3 62 R.heap.size (ext R y) A' (n + m) c' (l ++ r) → W.grownBy (ext R y) (blkOf A) → (blkOf A' = blkOf A ∨ blkOf A' = some W.heap.size) → K (a.put o.dst (.slice A' (n + m) c')) (ext R y)) :
    if Region.wanted o (yielded ops a.tmps) = true then Oper.wp Tryd.prog o a W K Q else E := by
  have hw : Region.wanted o (yielded ops a.tmps) = true := by simp [Region.wanted, hgd]
  rw [if_pos hw]
  have hown := hown₀.below hW₀
  have hr := hr₁.below hW₁
  obtain ⟨i0, hi0, hz0, hz1, hz2⟩ := info_parts Cue_info
  obtain ⟨v', w', hrun, h2, h3, h4⟩ := run_append_rd (P := Tryd.prog) W R.heap.size 56 o.type 62 i0 (.agg #[.int .i64 0, .int .i64 0, .int .i64 0]) 3 24 Tryd.underlying56 hi0 hz0 hz1 hz2 rfl (by omega) (.slice A n c) n (tripCells l) hown B m d (tripCells r) hr
    (fun u hu => tripCells_one r u hu) (by simp only [maxLen]; omega) (by omega) hR.size
  unfold Oper.wp execOp
  simp only [ho, resolve, invoke, builtin, Sem.run_bind, Sem.run_pure, Result.andThen_ok, List.map_toArray, List.map_cons, List.map_nil, hs, hx, hrun]
  rw [ownBlock_slice] at h3 h4
  have hBw : Below R.heap.size R w' := below_grown hR h3 (fun k hk => (hown.blk hk).1)
  obtain ⟨y, rfl⟩ := ext_ex hBw
  rw [← tripCells_append] at h2
  rcases h2.2 with ⟨hv, h0⟩ | ⟨g', cap, cur, hv, hrest⟩
  · subst hv
    rw [ownBlock_slice] at h4
    have e : Value.slice none 0 0 = .slice none (n + m) 0 := by rw [h0]
    rw [e] at h2 ⊢
    exact h none 0 y h2 h3 h4
  · subst hv
    rw [ownBlock_slice] at h4
    exact h _ _ y h2 h3 h4
/-- append of cues. -/
theorem wpl_app_cue {ops : Array Oper} {rest : List Oper} {o : Oper} {a : Act} {Q : Exit → Act → World → Prop} (R : World) {W : World} (hgd : o.guard = none) (s x : Operand) (ho : o.op = .call { callee := .builtin .append, args := #[s, x], argTypes := #[56, 56] })
    (A : Option Addr) (n c : Nat) (l : List T3) (hs : a.eval s = .slice A n c) {W₀ : World} (hown₀ : Ow3 62 R.heap.size W₀ A n c l) (hW₀ : Below W₀.heap.size W₀ W) (hR : Below R.heap.size R W)
    (B : Option Addr) (m d : Nat) (r : List T3) (hx : a.eval x = .slice B m d) {W₁ : World} (hr₁ : Rd3 W₁ B m r) (hW₁ : Below W₁.heap.size W₁ W) (hn : n + m ≤ 1099511627776)
    (h : ∀ A' c' y, Ow3 62 R.heap.size (ext R y) A' (n + m) c' (l ++ r) → W.grownBy (ext R y) (blkOf A) → (blkOf A' = blkOf A ∨ blkOf A' = some W.heap.size) → wpList Tryd.prog ops Q rest (a.put o.dst (.slice A' (n + m) c')) (ext R y)) :
    wpList Tryd.prog ops Q (o :: rest) a W := by
  have hown := hown₀.below hW₀
  have hr := hr₁.below hW₁
  obtain ⟨i0, hi0, hz0, hz1, hz2⟩ := info_parts Cue_info
  obtain ⟨v', w', hrun, h2, h3, h4⟩ := run_append_rd (P := Tryd.prog) W R.heap.size 56 o.type 62 i0 (.agg #[.int .i64 0, .int .i64 0, .int .i64 0]) 3 24 Tryd.underlying56 hi0 hz0 hz1 hz2 rfl (by omega) (.slice A n c) n (tripCells l) hown B m d (tripCells r) hr
    (fun u hu => tripCells_one r u hu) (by simp only [maxLen]; omega) (by omega) hR.size
  refine wpList_plain hgd fun K hK => ?_
  unfold Oper.wp execOp
  simp only [ho, resolve, invoke, builtin, Sem.run_bind, Sem.run_pure, Result.andThen_ok, List.map_toArray, List.map_cons, List.map_nil, hs, hx, hrun]
  rw [ownBlock_slice] at h3 h4
  have hBw : Below R.heap.size R w' := below_grown hR h3 (fun k hk => (hown.blk hk).1)
  obtain ⟨y, rfl⟩ := ext_ex hBw
  rw [← tripCells_append] at h2
  rcases h2.2 with ⟨hv, h0⟩ | ⟨g', cap, cur, hv, hrest⟩
  · subst hv
    rw [ownBlock_slice] at h4
    have e : Value.slice none 0 0 = .slice none (n + m) 0 := by rw [h0]
    rw [e] at h2 ⊢
    exact hK _ _ (h none 0 y h2 h3 h4)
  · subst hv
    rw [ownBlock_slice] at h4
    exact hK _ _ (h _ _ y h2 h3 h4)
theorem Rd3.one_ {w : World} {b : Nat} {x : T3} (hb : b < w.heap.size) (h0 : w.cell? ⟨b, 0, none⟩ = some (.int .i64 x.1)) (h1 : w.cell? ⟨b, 1, none⟩ = some (.int .i64 x.2.1)) (h2 : w.cell? ⟨b, 2, none⟩ = some (.int .i64 x.2.2)) : Rd3 w (some ⟨b, 0, none⟩) 1 [x] :=
  ⟨by simp [tripCells], fun _ => ⟨b, 0, rfl, hb, fun j u hu => by
    match j with
    | 0 => simp [tripCells] at hu; subst hu; exact h0
    | 1 => simp [tripCells] at hu; subst hu; exact h1
    | 2 => simp [tripCells] at hu; subst hu; exact h2
    | j + 3 => simp [tripCells] at hu⟩⟩
theorem Rd3.drop_ {w : World} {b off n : Nat} {l : List T3} (h : Rd3 w (some ⟨b, off, none⟩) n l) (j : Nat) (hj : j ≤ n) : Rd3 w (some ⟨b, off + j * 3, none⟩) (n - j) (l.drop j) := by
  have hl := h.len
  have e : tripCells (l.drop j) = (tripCells l).drop (j * 3) := by
    have h1 := tripCells_append (l.take j) (l.drop j)
    rw [List.take_append_drop, tripCells_take] at h1
    have h2 : tripCells l = (tripCells l).take (j * 3) ++ (tripCells l).drop (j * 3) := (List.take_append_drop _ _).symm
    exact (List.append_cancel_left (h1.symm.trans h2))
  refine ⟨by rw [tripCells_len, List.length_drop]; omega, fun hn => ?_⟩
  obtain ⟨b', off', e', hlt, hc⟩ := h.2 (by omega)
  injection e' with e'
  injection e' with e1 e2
  subst e1 e2
  refine ⟨b, off + j * 3, rfl, hlt, fun i u hu => ?_⟩
  rw [e, List.getElem?_drop] at hu
  have := hc (j * 3 + i) u hu
  rw [Nat.add_assoc]
  exact this
end Go.Proofs.YtpjaiihkgeabiaaDoor
