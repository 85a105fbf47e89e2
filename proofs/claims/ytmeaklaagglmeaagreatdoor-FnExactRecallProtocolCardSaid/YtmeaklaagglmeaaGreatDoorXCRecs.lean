/- A mark of an item replaced: what stays valid; rows of a forest; plain. Conditions: none. -/
import Derived.Test.YtmeaklaagglmeaaGreatDoorXCPar7s
import Derived.Test.YtmeaklaagglmeaaGreatDoorXL1
import Derived.Test.YtmeaklaagglmeaaGreatDoorXInts
import Derived.Test.YtmeaklaagglmeaaGreatDoorXLawKit
import Derived.Test.YtmeaklaagglmeaaGreatDoorXStrs
import Derived.Deep.AppendLies
import Derived.Deep.RegionHeld3
set_option linter.unusedVariables false
set_option linter.unusedSimpArgs false
set_option maxRecDepth 100000
namespace Go.Proofs.YtmeaklaagglmeaaGreatDoor
open Go.RowKit
def setIt (it : It) (j : Nat) (v : Int) : It := (it.1, it.2.1.set j v, it.2.2)
def setIts (its : List It) (k j : Nat) (v : Int) : List It := its.set k (setIt (its[k]?.getD zIt) j v)
theorem setIts_len (its : List It) (k j : Nat) (v : Int) : (setIts its k j v).length = its.length := by simp [setIts]
theorem setIts_at {its : List It} {k : Nat} (j : Nat) (v : Int) (hk : k < its.length) : (setIts its k j v)[k]?.getD zIt = setIt (its[k]?.getD zIt) j v := by simp [setIts, hk]
theorem setIts_ne {its : List It} {k i : Nat} (j : Nat) (v : Int) (h : i ≠ k) : (setIts its k j v)[i]?.getD zIt = its[i]?.getD zIt := by unfold setIts; rw [List.getElem?_set_ne (fun e => h e.symm)]
theorem all_set {α : Type} {P : α → Bool} {l : List α} {k : Nat} {x : α} (h : l.all P = true) (hx : P x = true) : (l.set k x).all P = true := List.all_eq_true.2 fun y hy => by
 rcases List.mem_or_eq_of_mem_set hy with hy | rfl
 ·
  exact List.all_eq_true.1 h y hy
 ·
  exact hx
theorem itemB_set {it : It} {j : Nat} {v : Int} (h : itemB it = true) (hv : 0 ≤ v ∧ v ≤ 3) : itemB (setIt it j v) = true := by
 simp only [itemB, setIt, Bool.and_eq_true, decide_eq_true_eq, List.length_set] at h ⊢
 exact ⟨h.1, h.2.1, h.2.2.1, all_set h.2.2.2 (inB_iff.2 hv)⟩
theorem perfB_set {els : List El} {lims : List Int} {q0 q1 q2 q3 : Int} {its : List It} {gg kk : List (List Int)} {s1 s2 s3 : Int} {k j : Nat} {v : Int} (h : perfB els lims q0 q1 q2 q3 its gg kk s1 s2 s3 = true) (hk : k < its.length) (hv : 0 ≤ v ∧ v ≤ 3) : perfB els lims q0 q1 q2 q3 (setIts its k j v) gg kk s1 s2 s3 = true := by
 simp only [perfB, judgedB, progB, mksB, itemsB, knowB, Bool.and_eq_true, decide_eq_true_eq, setIts_len] at h ⊢
 have hm := getD_mem zIt its k hk
 exact ⟨⟨⟨h.1.1.1, ⟨all_set h.1.1.2.1.1 (itemB_set (List.all_eq_true.1 h.1.1.2.1.1 _ hm) hv), h.1.1.2.1.2⟩, all_set h.1.1.2.2 (show knowIt els (setIt (its[k]?.getD zIt) j v) = true from (show knowIt els (its[k]?.getD zIt) = true from List.all_eq_true.1 h.1.1.2.2 _ hm))⟩, h.1.2⟩, h.2⟩
def recOk (its : List It) (k j v : Int) : Bool := inB k 0 ((its.length : Int) - 1) && (inB j 0 (((its[k.toNat]?.getD zIt).1.length : Int) - 1) && inB v 0 3)
def recK (o : Option PR) (k j v : Int) : Bool := match o with
 | some p => recOk p.1 k j v
 | none => false
def recT (els : List El) (q0 q1 q2 q3 : Int) (p : PR) (k j v : Int) : ByteArray := textV els q0 q1 q2 q3 (setIts p.1 k.toNat j.toNat v) p.2.1.1 p.2.1.2 p.2.2.1.1 p.2.2.1.2.1 p.2.2.1.2.2 p.2.2.2.1 p.2.2.2.2
def recV (els : List El) (q0 q1 q2 q3 : Int) (o : Option PR) (k j v : Int) : ByteArray := match o with
 | some p => if recOk p.1 k j v then recT els q0 q1 q2 q3 p k j v else ⟨#[]⟩
 | none => ⟨#[]⟩
theorem recOk_of {its : List It} {k j v : Int} (h : recOk its k j v = true) : ∃ k' j' : Nat, k = k' ∧ j = j' ∧ k' < its.length ∧ j' < (its[k']?.getD zIt).1.length ∧ 0 ≤ v ∧ v ≤ 3 := by
 simp only [recOk, Bool.and_eq_true] at h
 have h1 := inB_iff.1 h.1
 have h2 := inB_iff.1 h.2.1
 have h3 := inB_iff.1 h.2.2
 exact ⟨k.toNat, j.toNat, by omega, by omega, by omega, by omega, h3⟩
theorem ItF.mk_at {b hi : Nat} {w : World} {R : Fam} {I : Option Addr} {n c : Nat} {its : List It} (h : ItF R I n c its) (hF : Fo b hi w R) {k : Nat} (hk : k < n) : ∃ g NA nn nc MA mn mc, I = some ⟨g, 0, none⟩ ∧ b ≤ g ∧ g < w.heap.size ∧ w.cell? ⟨g, k * 3, none⟩ = some (.slice NA nn nc) ∧ w.cell? ⟨g, k * 3 + 1, none⟩ = some (.slice MA mn mc) ∧ w.cell? ⟨g, k * 3 + 2, none⟩ = some (.bool (its[k]?.getD zIt).2.2) ∧ R (3, k) = rowT NA nn nc (its[k]?.getD zIt).1 ∧ R (4, k) = rowI MA mn mc (its[k]?.getD zIt).2.1 ∧ ∀ (j : Nat) (v : Int), ItF (upd R (4, k) (rowI MA mn mc ((its[k]?.getD zIt).2.1.set j v))) I n c (setIts its k j v) := by
 obtain ⟨hl, ⟨C, hC, h0, hj⟩, hz⟩ := h
 have ho := hF.1 (0, 0)
 rw [h0] at ho
 have ho : Ow 70 3 b w I n c (cells3 C) := ho
 obtain ⟨g, rfl, hb, hg⟩ := ho.form_ (by omega)
 obtain ⟨NA, nn, nc, MA, mn, mc, e, q1, q2⟩ := hj k hk
 obtain ⟨g0, g1, g2⟩ := cells3_get C k (by omega)
 rw [e] at g0 g1 g2
 refine ⟨g, NA, nn, nc, MA, mn, mc, rfl, hb, hg, (Ow.cell_ ho _ (by omega)).trans g0, (Ow.cell_ ho _ (by omega)).trans g1, (Ow.cell_ ho _ (by omega)).trans g2, q1, q2, fun j v => ⟨by rw [setIts_len]; exact hl, ⟨C, hC, by rw [upd_ne _ _ (by simp)]; exact h0, fun i hi => ?_⟩, fun i hi => ?_⟩⟩
 ·
  by_cases ei : i = k
  ·
   subst ei
   rw [setIts_at j v (by omega)]
   exact ⟨NA, nn, nc, MA, mn, mc, e, by rw [upd_ne _ _ (by simp)]; exact q1, by rw [upd_same]; rfl⟩
  ·
   rw [setIts_ne j v ei]
   obtain ⟨NA', nn', nc', MA', mn', mc', e', q1', q2'⟩ := hj i hi
   exact ⟨NA', nn', nc', MA', mn', mc', e', by rw [upd_ne _ _ (by simp)]; exact q1', by rw [upd_ne _ _ (by simp [ei])]; exact q2'⟩
 ·
  obtain ⟨z1, z2⟩ := hz i hi
  exact ⟨by rw [upd_ne _ _ (by simp)]; exact z1, by rw [upd_ne _ _ (by simp; omega)]; exact z2⟩
end Go.Proofs.YtmeaklaagglmeaaGreatDoor
namespace Go.Proofs.YtmeaklaagglmeaaGreatDoor
open Go.RowKit
end Go.Proofs.YtmeaklaagglmeaaGreatDoor
namespace Go.Proofs.YtmeaklaagglmeaaGreatDoor
open Go.RowKit
end Go.Proofs.YtmeaklaagglmeaaGreatDoor
namespace Go.Proofs.YtmeaklaagglmeaaGreatDoor
open Go.RowKit
section
variable {ops : Array Oper} {rest : List Oper} {o : Oper} {a : Act} {Q : Exit → Act → World → Prop}
end

end Go.Proofs.YtmeaklaagglmeaaGreatDoor
namespace Go.Proofs.YtmeaklaagglmeaaGreatDoor
open Go.RowKit
theorem pro_perf {els : List El} {lims : List Int} {q0 q1 q2 q3 : Int} {its : List It} {gg kk : List (List Int)} {s1 s2 s3 sk fa : Int} (h : proB els lims q0 q1 q2 q3 its gg kk s1 s2 s3 sk fa = true) : perfB els lims q0 q1 q2 q3 its gg kk s1 s2 s3 = true := by
 simp only [proB, askB, Bool.and_eq_true] at h
 exact h.1.1
theorem isMark_any (v : Int) (w : World) : Calls Tryz.prog 85 #[.int .i64 v] w fun e w' => e = .returned (.bool (inB v 0 3)) ∧ w = w' := by
 have cw := fun W => within_any v 0 3 W
 go_enter Tryz.func85, Tryz.ntmps85
 go_wp2_with ((go_at_call 91; ((with_reducible refine (cw _).mono ?_); rintro e w' ⟨rfl, rfl⟩)))
 go_ret
 exact ⟨rfl, rfl⟩
def RetItm (w : World) (it : It) (e : Ending) (w' : World) : Prop := ∃ NA nn nc MA mn mc x, e = .returned (.agg #[.slice NA nn nc, .slice MA mn mc, .bool it.2.2]) ∧ w' = ext w x ∧ OwT w.heap.size (ext w x) NA nn nc it.1 ∧ OwI w.heap.size (ext w x) MA mn mc it.2.1 ∧ (blkOf NA = none ∨ blkOf NA ≠ blkOf MA)
theorem step_app_str {ops : Array Oper} {o : Oper} {a : Act} {K : Act → World → Prop} {Q : Exit → Act → World → Prop} {E : Prop} (R : World) {W : World} (hgd : o.guard = none) (s x : Operand) (ho : o.op = .call { callee := .builtin .append, args := #[s, x], argTypes := #[68, 68] })
  (A : Option Addr) (n c : Nat) (l : List ByteArray) (hs : a.eval s = .slice A n c) {W₀ : World} (hown₀ : OwT R.heap.size W₀ A n c l) (hW₀ : Below W₀.heap.size W₀ W) (hR : Below R.heap.size R W)
  (B : Option Addr) (m d : Nat) (r : List ByteArray) (hx : a.eval x = .slice B m d) {W₁ : World} (hr₁ : RdT W₁ B m r) (hW₁ : Below W₁.heap.size W₁ W) (hn : n + m ≤ 1099511627776)
  (h : ∀ A' c' y, OwT R.heap.size (ext R y) A' (n + m) c' (l ++ r) → W.grownBy (ext R y) (blkOf A) → (blkOf A' = blkOf A ∨ blkOf A' = some W.heap.size) → K (a.put o.dst (.slice A' (n + m) c')) (ext R y)) :
  if Region.wanted o (yielded ops a.tmps) = true then Oper.wp Tryz.prog o a W K Q else E := by
 have hown := hown₀.below hW₀
 have hr := hr₁.below hW₁
 obtain ⟨i0, hi0, hz0, hz1, hz2⟩ := info_parts string_info
 obtain ⟨v', w', hrun, h2, h3, h4⟩ := run_append_rd (P := Tryz.prog) W R.heap.size 68 o.type 9 i0 (.string ByteArray.empty) 1 16 Tryz.underlying68 hi0 hz0 hz1 hz2 rfl (by omega) (.slice A n c) n (l.map Value.string) hown B m d (r.map Value.string) hr
  (by intro u hu; simp only [List.mem_map] at hu; obtain ⟨z, _, rfl⟩ := hu; rfl) (by simp only [maxLen]; omega) (by omega) hR.size
 have hw : Region.wanted o (yielded ops a.tmps) = true := by simp [Region.wanted, hgd]
 rw [if_pos hw]
 unfold Oper.wp execOp
 simp only [ho, resolve, invoke, builtin, Sem.run_bind, Sem.run_pure, Result.andThen_ok, List.map_toArray, List.map_cons, List.map_nil, hs, hx, hrun]
 rw [ownBlock_slice] at h3 h4
 have hBw : Below R.heap.size R w' := below_grown hR h3 (fun k hk => (hown.blk hk).1)
 obtain ⟨y, rfl⟩ := ext_ex hBw
 have hm : l.map Value.string ++ r.map Value.string = (l ++ r).map Value.string := by simp
 rw [hm] at h2
 rcases h2.2 with ⟨hv, h0⟩ | ⟨g', cap, cur, hv, hrest⟩
 ·
  subst hv
  rw [ownBlock_slice] at h4
  have e : Value.slice none 0 0 = .slice none (n + m) 0 := by rw [h0]
  rw [e] at h2 ⊢
  exact h none 0 y h2 h3 h4
 ·
  subst hv
  rw [ownBlock_slice] at h4
  exact h _ _ y h2 h3 h4
set_option maxHeartbeats 4000000 in
theorem copyItem_any (w : World) (NA MA : Option Addr) (nn nc mn mc : Nat) (l : List ByteArray) (ml : List Int) (lt : Bool) (hN : RdT w NA nn l) (hM : RdI w MA mn ml) (hn : nn ≤ 1099511627776) (hm : mn ≤ 1099511627776) :
  Calls Tryz.prog 194 #[.agg #[.slice NA nn nc, .slice MA mn mc, .bool lt]] w (RetItm w (l, ml, lt)) := by
 have o0 : ∀ R : World, OwT R.heap.size (R.alloc (.cells #[] 9)) (some ⟨R.heap.size, 0, none⟩) 0 0 [] := fun R => OwT.lit_ (Below.refl R.heap.size R) [] (by simp [maxLen]) #[] rfl
 have hn0 : 0 + nn ≤ 1099511627776 := by omega
 have ci := fun W (h : Below w.heap.size w W) => copyInts_any W MA mn mc ml (hM.below h) hm
 have sb : ((w.alloc (.cells #[.slice NA nn nc, .slice MA mn mc, .bool lt] 70)).alloc (.cells #[.slice none 0 0, .slice none 0 0, .bool false] 70)).heap.size = w.heap.size + 1 + 1 := by simp [go_sem]
 have o9 : OwT ((w.alloc (.cells #[.slice NA nn nc, .slice MA mn mc, .bool lt] 70)).alloc (.cells #[.slice none 0 0, .slice none 0 0, .bool false] 70)).heap.size (((w.alloc (.cells #[.slice NA nn nc, .slice MA mn mc, .bool lt] 70)).alloc (.cells #[.slice none 0 0, .slice none 0 0, .bool false] 70)).alloc (.cells #[] 9)) (some ⟨w.heap.size + 1 + 1, 0, none⟩) 0 0 [] := by
  have := o0 ((w.alloc (.cells #[.slice NA nn nc, .slice MA mn mc, .bool lt] 70)).alloc (.cells #[.slice none 0 0, .slice none 0 0, .bool false] 70))
  rwa [show (⟨((w.alloc (.cells #[.slice NA nn nc, .slice MA mn mc, .bool lt] 70)).alloc (.cells #[.slice none 0 0, .slice none 0 0, .bool false] 70)).heap.size, 0, none⟩ : Addr) = ⟨w.heap.size + 1 + 1, 0, none⟩ from by rw [sb]] at this
 have hS := fun (W : World) (h : Below (w.alloc (.cells #[.slice NA nn nc, .slice MA mn mc, .bool lt] 70)).heap.size (w.alloc (.cells #[.slice NA nn nc, .slice MA mn mc, .bool lt] 70)) W) => (⟨(h.cell (p := ⟨w.heap.size, 0, none⟩) (by simp [go_sem])).trans (by simp [go_sem]), (h.cell (p := ⟨w.heap.size, 1, none⟩) (by simp [go_sem])).trans (by simp [go_sem]), (h.cell (p := ⟨w.heap.size, 2, none⟩) (by simp [go_sem])).trans (by simp [go_sem])⟩ : W.cell? ⟨w.heap.size, 0, none⟩ = some (.slice NA nn nc) ∧ W.cell? ⟨w.heap.size, 1, none⟩ = some (.slice MA mn mc) ∧ W.cell? ⟨w.heap.size, 2, none⟩ = some (.bool lt))
 go_enter Tryz.func194, Tryz.ntmps194
 go_wp2
 go_region_held3 (fun w' => w'.cell? ⟨w.heap.size, 0, none⟩ = some (.slice NA nn nc) ∧ w'.cell? ⟨w.heap.size, 1, none⟩ = some (.slice MA mn mc) ∧ w'.cell? ⟨w.heap.size, 2, none⟩ = some (.bool lt)) (exact hS _ bl) (first | (go_at_call 243; ((with_reducible refine (ci _ bl).mono ?_); rintro e w' ⟨M', m', d', x1, rfl, rfl, o1⟩)) | ((refine step_app_str ((w.alloc (.cells #[.slice NA nn nc, .slice MA mn mc, .bool lt] 70)).alloc (.cells #[.slice none 0 0, .slice none 0 0, .bool false] 70)) (by rfl) _ _ (by rfl) (some ⟨w.heap.size + 1 + 1, 0, none⟩) 0 0 [] (by rfl) o9 bl bl NA nn nc l (by rfl) hN bl hn0 ?_); intro A' c' y ho hg hd) | ((refine step_app_str (ext ((w.alloc (.cells #[.slice NA nn nc, .slice MA mn mc, .bool lt] 70)).alloc (.cells #[.slice none 0 0, .slice none 0 0, .bool false] 70)).drew x1) (by rfl) _ _ (by rfl) (some ⟨(ext ((w.alloc (.cells #[.slice NA nn nc, .slice MA mn mc, .bool lt] 70)).alloc (.cells #[.slice none 0 0, .slice none 0 0, .bool false] 70)).drew x1).heap.size, 0, none⟩) 0 0 [] (by rfl) (o0 _) bl bl NA nn nc l (by rfl) hN bl hn0 ?_); intro A' c' y ho hg hd))
 simp only [Nat.zero_add, List.nil_append] at ho
 go_wp2
 refine bodyPost_ret (v := .agg #[.slice A' nn c', .slice M' m' d', .bool lt]) (by simp [results, Tryz.results194, go_sem]) rfl ?_
 have hwb : Below w.heap.size w ((w.alloc (.cells #[.slice NA nn nc, .slice MA mn mc, .bool lt] 70)).alloc (.cells #[.slice none 0 0, .slice none 0 0, .bool false] 70)) := by with_reducible repeat first | exact Below.refl _ _ | assumption | refine bSetN ?_ (by omega) _ | refine bExt ?_ _ | refine bAlloc ?_ _ | refine bDrewN ?_ _ | refine bDrew ?_
 clear hg hd hS hN hM o9 o0 ci
 generalize ((w.alloc (.cells #[.slice NA nn nc, .slice MA mn mc, .bool lt] 70)).alloc (.cells #[.slice none 0 0, .slice none 0 0, .bool false] 70)) = Wb at *
 have h1 := ext_le Wb y
 have hWF : Below w.heap.size w ((((ext (ext Wb y) x1).setCell ⟨w.heap.size + 1, 0, none⟩ (.slice A' nn c')).setCell ⟨w.heap.size + 1, 1, none⟩ (.slice M' m' d')).setCell ⟨w.heap.size + 1, 2, none⟩ (.bool lt)) := by with_reducible repeat first | exact Below.refl _ _ | assumption | refine bSetN ?_ (by omega) _ | refine bExt ?_ _ | refine bAlloc ?_ _ | refine bDrewN ?_ _ | refine bDrew ?_
 have q1 := (((ho.below (ext_below _ x1)).setLow (g := w.heap.size + 1) (k := 0) (v := .slice A' nn c') (by omega)).setLow (g := w.heap.size + 1) (k := 1) (v := .slice M' m' d') (by omega)).setLow (g := w.heap.size + 1) (k := 2) (v := .bool lt) (by omega)
 have q2 := ((o1.setLow (g := w.heap.size + 1) (k := 0) (v := .slice A' nn c') (by omega)).setLow (g := w.heap.size + 1) (k := 1) (v := .slice M' m' d') (by omega)).setLow (g := w.heap.size + 1) (k := 2) (v := .bool lt) (by omega)
 have hne : blkOf A' = none ∨ blkOf A' ≠ blkOf M' := by
  cases hz : blkOf A' with
  | none => exact .inl rfl
  | some z => exact .inr fun e => by have h2 := (Ow.blk ho hz).2; have h3 := (Ow.blk o1 e.symm).1; omega
 obtain ⟨z, hz⟩ := ext_ex hWF
 rw [hz] at q1 q2
 exact ⟨A', nn, c', M', m', d', z, rfl, hz, q1.mono (by omega), q2.mono (by omega), hne⟩
def RetIts (w : World) (its : List It) (e : Ending) (w' : World) : Prop := ∃ I n c x R, e = .returned (.slice I n c) ∧ w' = ext w x ∧ Fo w.heap.size (ext w x).heap.size (ext w x) R ∧ ItF R I n c its
set_option maxHeartbeats 8000000 in
theorem copyItems_any (w : World) (A : Option Addr) (n c : Nat) (its : List It) (ha : ItsR w A n c its) :
  Calls Tryz.prog 145 #[.slice A n c] w (RetIts w its) := by
 have Hl := Lib.hid ha.1.len
 have Hs := Lib.hid ha.2.2.2
 have hn := ha.2.1
 go_enter Tryz.func145, Tryz.ntmps145
 go_wp2
 go_loopw [3, 5, 9] (fun t _ i wr => ∃ (k : Nat) (R : Fam) (I : Option Addr) (dc : Nat) (y : World), k ≤ n ∧ i = .int .i64 k ∧ t = .slice I k dc ∧ wr = ext w y ∧ Fo w.heap.size wr.heap.size wr R ∧ ItF R I k dc (its.take k)) (fun _ _ i _ => n - (intOf i).toNat)
 case atStart =>
  obtain ⟨y, hy⟩ := ext_ex (show Below w.heap.size w (w.alloc (.cells #[] 70)) from bl)
  have F1 := (Fo.nil_ (b := w.heap.size) (hi := w.heap.size) (w := w)).lit (j := (0, 0)) rfl (Nat.le_refl _) (Nat.le_refl _) 70 3 0 #[] rfl (by simp [maxLen]) [] rfl
  exact ⟨0, _, _, 0, y, by omega, rfl, rfl, hy, F1.mono (Nat.le_refl _) (by simp [go_sem]), ⟨rfl, ⟨[], rfl, by rw [upd_same]; rfl, fun j hj => absurd hj (by omega)⟩, fun j _ => by simp [upd, famN]⟩⟩
 case round =>
  obtain ⟨k, R, I, dc, y, hk, rfl, rfl, rfl, hF, hI⟩ := hrel
  by_cases hlt : k < n
  ·
   obtain ⟨b, off, rfl, hb, hc⟩ := ha.1.2 (by omega)
   obtain ⟨NA, nn, nc, MA, mn, mc, c0, c1, c2, hN, hM, hnc, hmc⟩ := hc k hlt
   have HT := Lib.hid (take_succ_getD zIt its k (by rw [Hl.out]; exact hlt))
   have hsm := Hs.out _ (getD_mem zIt its k (by rw [Hl.out]; exact hlt))
   have hkb : k ≤ 1099511627776 := by omega
   have hnn : nn ≤ 1099511627776 := by rw [← hN.len]; exact hsm.1
   have hmn : mn ≤ 1099511627776 := by rw [← hM.len]; exact hsm.2.1
   clear hc hsm hnc hmc
   generalize its[k]?.getD zIt = it at *
   obtain ⟨l, ml, lt⟩ := it
   simp only at c2 hN hM
   have ct := fun W (h : Below w.heap.size w W) => copyItem_any W NA MA nn nc mn mc l ml lt (hN.below h) (hM.below h) hnn hmn
   unfold RetItm at ct
   simp only at ct
   obtain ⟨xs, e0, _⟩ := hI.push (l, ml, lt) (none) 0 0 none 0 0
   have hOwn := hF.at_ e0
   have hz := hI.2.2 k (Nat.le_refl _)
   clear hN hM hnn hmn
   go_wp2_with (first
    | (go_at_call 194; ((with_reducible refine (ct _ bl).mono ?_); rintro e w' ⟨NA', nn', nc', MA', mn', mc', x2, rfl, rfl, oN, oM, hne⟩))
    | (at_builtin; (refine wpl_push_item w _ _ _ _ ?_ _ ?_ rfl _ _ rfl I k dc _ rfl (Nat.le_refl _) ?_ hOwn ?_ ?_ rfl hkb ?_); (focus (exact ⟨rfl, rfl, rfl⟩)); (focus (first | rfl | (simp; done))); (focus (refine szOf ?_; exact bl)); exact bl; exact bl; intro I' c' y' ho' hg' hd'))
   obtain ⟨xs2, e02, hpush⟩ := hI.push (l, ml, lt) NA' nn' nc' MA' mn' mc'
   have hxs : xs2 = xs := by rw [e0] at e02; injection e02 with _ _ _ _ _ h; exact h.symm
   subst hxs
   have F1 := hF.below' (bAlloc (Below.refl _ _) (.cells #[.slice NA nn nc, .slice MA mn mc, .bool lt] 70)) (Nat.le_refl _)
   have F2 := F1.add2 (j := (3, k)) (i := (4, k)) (r := rowT NA' nn' nc' l) (r2 := rowI MA' mn' mc' ml) (by simp) hz.1 hz.2 (ext_below _ x2) (Nat.le_refl _) (Nat.le_refl _) (Nat.le_trans (ext_le w y) (szOf (bAlloc (Below.refl _ _) _))) oN oM hne
   have F3 := F2.grew (j := (0, 0)) (by rw [upd_ne _ _ (by simp), upd_ne _ _ (by simp)]; exact e0) hg' ho' hd' (Nat.le_refl _)
   go_roundw
   case rel => exact ⟨k + 1, _, I', c', y', by omega, by go_num, rfl, rfl, F3, by rw [HT.out]; exact hpush I' c'⟩
   case measure => simp [intOf]; omega
  ·
   obtain rfl : k = n := by omega
   rw [List.take_of_length_le (by rw [Hl.out]; exact Nat.le_refl _)] at hI
   go_wp2
   go_ret
   exact ⟨I, k, dc, y, R, rfl, rfl, hF, hI⟩
def hasN (its : List It) (k j : Int) : Bool := inB k 0 ((its.length : Int) - 1) && inB j 0 (((its[k.toNat]?.getD zIt).1.length : Int) - 1)
theorem recOk_has (its : List It) (k j v : Int) : recOk its k j v = (hasN its k j && inB v 0 3) := by unfold recOk hasN; rw [Bool.and_assoc]
theorem hasNameAt_any (w : World) (A : Option Addr) (n c : Nat) (its : List It) (ha : ItsR w A n c its) (k j : Int) :
  Calls Tryz.prog 84 #[.slice A n c, .int .i64 k, .int .i64 j] w fun e w' => e = .returned (.bool (hasN its k j)) ∧ w = w' := by
 have Hl := ha.1.len
 have hn := ha.2.1
 have e1 : IntKind.i64.wrap ((n : Int) - 1) = (n : Int) - 1 := IntWalk.i64_in _ (by omega)
 have cw := fun W => within_any k 0 ((n : Int) - 1) W
 have HB : Hid (hasN its k j = (inB k 0 ((n : Int) - 1) && inB j 0 (((its[k.toNat]?.getD zIt).1.length : Int) - 1))) := by unfold Hid hasN; rw [Hl]
 cases h1 : inB k 0 ((n : Int) - 1)
 ·
  rw [h1] at cw HB
  clear h1 ha Hl
  go_enter Tryz.func84, Tryz.ntmps84
  go_wp2_with ((go_at_call 91; ((with_reducible refine (cw _).mono ?_); rintro e w' ⟨rfl, rfl⟩)))
  go_ret
  exact ⟨ret_bool (by rw [HB.out]; rfl), rfl⟩
 ·
  rw [h1] at cw HB
  have h2 := inB_iff.1 h1
  obtain ⟨i, rfl⟩ : ∃ i : Nat, k = i := ⟨k.toNat, by omega⟩
  have hi : i < n := by omega
  obtain ⟨b, off, rfl, hb, hc⟩ := ha.1.2 (by omega)
  obtain ⟨NA, nn, nc, MA, mn, mc, c0, c1, c2, hN, hM, hnc, hmc⟩ := hc i hi
  have hsm := (ha.2.2.2 _ (getD_mem zIt its i (by omega))).1
  have hnl := hN.len
  rw [Int.toNat_natCast, hnl] at HB
  rw [hnl] at hsm
  have e2 : IntKind.i64.wrap ((nn : Int) - 1) = (nn : Int) - 1 := IntWalk.i64_in _ (by omega)
  have cw2 := fun W => within_any j 0 ((nn : Int) - 1) W
  generalize inB j 0 ((nn : Int) - 1) = bb at *
  clear h1 h2 ha Hl hc hN hM hnl c1 c2 hmc
  have hi0 : (0 : Int) ≤ i := by omega
  have hiI : (i : Int) < n := by omega
  go_enter Tryz.func84, Tryz.ntmps84
  go_wp2_with (first | (go_at_call 91; ((with_reducible refine (cw _).mono ?_); rintro e w' ⟨rfl, rfl⟩)) | (go_at_call 91; ((with_reducible refine (cw2 _).mono ?_); rintro e w' ⟨rfl, rfl⟩)))
  go_ret
  exact ⟨ret_bool (by rw [HB.out]; rfl), rfl⟩
set_option maxHeartbeats 4000000 in
theorem withCall_any (w : World) (A : Option Addr) (n c : Nat) (its : List It) (ha : ItsR w A n c its) (k j : Nat) (v : Int) (hk : k < its.length) (hj : j < (its[k]?.getD zIt).2.1.length) :
  Calls Tryz.prog 86 #[.slice A n c, .int .i64 k, .int .i64 j, .int .i64 v] w (RetIts w (setIts its k j v)) := by
 have cc := copyItems_any w A n c its ha
 have HK := Lib.hid hk
 have HJ := Lib.hid hj
 have hn := ha.2.1
 have HL := Lib.hid ha.1.len
 have hsm := (ha.2.2.2 _ (getD_mem zIt its k hk)).2.1
 have hcj : Hid (((its[k]?.getD zIt).2.1.map (Value.int .i64))[j]? = some (.int .i64 ((its[k]?.getD zIt).2.1[j]?.getD 0))) := by unfold Hid; rw [List.getElem?_map, List.getElem?_eq_getElem hj]; rfl
 clear hk hj ha
 go_enter Tryz.func86, Tryz.ntmps86
 go_wp2_with ((go_at_call 145; ((with_reducible refine (cc).mono ?_); rintro e w' ⟨I', n', c', x, R, rfl, rfl, hF, hI⟩; (obtain rfl : n' = n := hI.1.symm.trans HL.out); (have hkn : k < n' := by have h1 := HK.out; have h2 := HL.out; omega); (obtain ⟨g, NA, nn, nc, MA, mn, mc, rfl, hgb, hgl, c0, c1, c2, q3, q4, hset⟩ := hI.mk_at hF hkn); (have ho := hF.at_ q4); (have hml : mn = (its[k]?.getD zIt).2.1.length := by have := ho.len; simpa using this.symm); (have hjm : j < mn := by have := HJ.out; omega); (obtain ⟨gm, rfl, hmb, hmlt⟩ := Ow.form_ ho (by omega)); (obtain ⟨hc4, hf4⟩ := hF.cell q4 j (.int .i64 ((its[k]?.getD zIt).2.1[j]?.getD 0)) hcj.out); have hm40 : mn ≤ 1099511627776 := by omega)))
 have G1 := hF.store q4 j (.int .i64 v)
 have eR : upd R (4, k) ⟨3, 1, some ⟨gm, 0, none⟩, mn, mc, ((its[k]?.getD zIt).2.1.map (Value.int .i64)).set j (.int .i64 v)⟩ = upd R (4, k) (rowI (some ⟨gm, 0, none⟩) mn mc ((its[k]?.getD zIt).2.1.set j v)) := by unfold rowI; rw [List.map_set]
 rw [eR] at G1
 obtain ⟨z, hz⟩ := ext_ex (show Below w.heap.size w ((ext w x).setCell ⟨gm, j, none⟩ (.int .i64 v)) from bSet (ext_below w x) hmb _)
 have hs : ((ext w x).setCell ⟨gm, j, none⟩ (.int .i64 v)).heap.size = (ext w x).heap.size := by simp [World.setCell]
 rw [← hs, hz] at G1
 go_ret
 exact ⟨_, _, _, z, _, rfl, hz, G1, hset j v⟩
set_option maxHeartbeats 8000000 in
theorem implRecallProtocol_any (w : World) (A B : Option Addr) (n m c d : Nat) (els : List El) (lims : List Int) (q0 q1 q2 q3 : Int) (hc : CodeR w A n B m els lims) (s : ByteArray) (k j v : Int) (hs : s.size ≤ 1048576) (hM : Mxl w) (hTab : Tab w) (hSg : Sgn w) :
  Calls Tryz.prog 38 #[.agg #[.slice A n c, .slice B m d, .int .i64 q0, .int .i64 q1, .int .i64 q2, .int .i64 q3], .string s, .int .i64 k, .int .i64 j, .int .i64 v] w (RetSK w (recV els q0 q1 q2 q3 (rdP els lims q0 q1 q2 q3 s) k j v) (recK (rdP els lims q0 q1 q2 q3 s) k j v)) := by
 have cr := fun W (h : Below w.heap.size w W) => implReadProtocol_any W A B n m c d els lims q0 q1 q2 q3 (hc.below h) s hs (hM.below h) (hTab.below h) (hSg.below h)
 have ck := fun W => isMark_any v W
 have hgood := fun v => @rd_good els lims q0 q1 q2 q3 s v
 generalize rdP els lims q0 q1 q2 q3 s = o at *
 unfold RetRd at cr
 cases o with
 | none =>
  simp only [Option.isSome_none, Option.getD_none] at cr
  clear hM hTab hSg hc hgood
  go_enter Tryz.func38, Tryz.ntmps38
  go_wp2_with ((go_at_call 13; ((with_reducible refine (cr _ bqq).mono ?_); rintro e w' ⟨I, n2, c2, GA, gn, gc, KA, kn, kc, x2, R, rfl, rfl, hF, hP⟩)))
  go_ret2
  exact RetSK.mk_ rfl rfl bqq
 | some p =>
  obtain ⟨its, ⟨gg, kk⟩, ⟨s1, s2, s3⟩, sk, fa⟩ := p
  simp only [Option.isSome_some, Option.getD_some] at cr
  have hB := hgood _ rfl
  simp only at hB
  clear hgood
  obtain ⟨hit, hPG, hfa, hsk⟩ := pro_of hB
  have hlen := hPG.len
  have HV : Hid (recV els q0 q1 q2 q3 (some (its, (gg, kk), (s1, s2, s3), sk, fa)) k j v = if recOk its k j v then textV els q0 q1 q2 q3 (setIts its k.toNat j.toNat v) gg kk s1 s2 s3 sk fa else ⟨#[]⟩) := rfl
  have HK : Hid (recK (some (its, (gg, kk), (s1, s2, s3), sk, fa)) k j v = recOk its k j v) := rfl
  have hir : ∀ (W : World) (I : Option Addr) (n2 c2 b hi : Nat) (R : Fam) (hF : Fo b hi W R) (hI : ItF R I n2 c2 its), ItsR W I n2 c2 its := fun W I n2 c2 b hi R hF hI => ⟨hI.rd hF, by have := hI.1; omega, hI.cap hF, fun x hx => item_small (hit x hx)⟩
  have ch := fun W (I : Option Addr) (n2 c2 : Nat) (h : ItsR W I n2 c2 its) => hasNameAt_any W I n2 c2 its h k j
  cases hh : hasN its k j
  ·
   have HR : Hid (recOk its k j v = false) := by unfold Hid; rw [recOk_has, hh]; rfl
   simp only [hh] at ch
   clear hM hTab hSg hc hB hh hPG
   go_enter Tryz.func38, Tryz.ntmps38
   go_wp2_with (first | (go_at_call 13; ((with_reducible refine (cr _ bqq).mono ?_); rintro e w' ⟨I, n2, c2, GA, gn, gc, KA, kn, kc, x2, R, rfl, rfl, hF, hP⟩; have hIt := hP.1)) | (go_at_call 84; ((with_reducible refine (ch _ I n2 c2 ((hir _ I n2 c2 _ _ R hF hIt).below bqq)).mono ?_); rintro e w' ⟨rfl, rfl⟩)))
   go_ret2
   exact RetSK.mk_ (by rw [HV.out, HR.out]; rfl) (by rw [HK.out, HR.out]) bqq
  ·
   simp only [hh] at ch
   cases hv : inB v 0 3
   ·
    have HR : Hid (recOk its k j v = false) := by unfold Hid; rw [recOk_has, hh, hv]; rfl
    rw [hv] at ck
    clear hM hTab hSg hc hB hh hPG hv
    go_enter Tryz.func38, Tryz.ntmps38
    go_wp2_with (first | (go_at_call 13; ((with_reducible refine (cr _ bqq).mono ?_); rintro e w' ⟨I, n2, c2, GA, gn, gc, KA, kn, kc, x2, R, rfl, rfl, hF, hP⟩; have hIt := hP.1)) | (go_at_call 84; ((with_reducible refine (ch _ I n2 c2 ((hir _ I n2 c2 _ _ R hF hIt).below bqq)).mono ?_); rintro e w' ⟨rfl, rfl⟩)) | (go_at_call 85; ((with_reducible refine (ck _).mono ?_); rintro e w' ⟨rfl, rfl⟩)))
    go_ret2
    exact RetSK.mk_ (by rw [HV.out, HR.out]; rfl) (by rw [HK.out, HR.out]) bqq
   ·
    have hR : recOk its k j v = true := by rw [recOk_has, hh, hv]; rfl
    obtain ⟨k', j', rfl, rfl, hk, hj, hv3⟩ := recOk_of hR
    have HR := Lib.hid hR
    rw [hv] at ck
    have him := item_of (hit _ (getD_mem zIt its k' hk))
    have hjm : j' < (its[k']?.getD zIt).2.1.length := by rw [him.2.1]; exact hj
    have hPG2 : PerfG els q0 q1 q2 q3 (setIts its k' j' v) gg kk s1 s2 s3 := perf_of (perfB_set (pro_perf hB) hk hv3)
    have hmk := hPG.mks
    have hmo := marksB_of hmk
    have hsl := setIts_len its k' j' v
    rw [Int.toNat_natCast, Int.toNat_natCast] at HV
    have cw := fun W (I : Option Addr) (n2 c2 : Nat) (h : ItsR W I n2 c2 its) => withCall_any W I n2 c2 its h k' j' v hk hjm
    unfold RetIts at cw
    generalize setIts its k' j' v = its2 at *
    have ct := fun W (h1 : Below w.heap.size w W) (GA : Option Addr) (gn gc : Nat) (KA : Option Addr) (kn kc : Nat) (W0 : World) (R : Fam) (b hi : Nat) (hb : Below W0.heap.size W0 W) (hF : Fo b hi W0 R) (hG : TbF 1 5 R GA gn gc gg) (hK : TbF 2 6 R KA kn kc kk) (I : Option Addr) (n2 c2 : Nat) (R2 : Fam) (b2 hi2 : Nat) (hF2 : Fo b2 hi2 W R2) (hI2 : ItF R2 I n2 c2 its2) => protocolText_any W A B n m c d els q0 q1 q2 q3 I n2 c2 its2 GA KA gn gc kn kc gg kk s1 s2 s3 ⟨⟨(hc.below h1).1, hc.2.2.1⟩, ⟨hI2.rd hF2, hI2.cap hF2⟩, (hG.rd hF).below hb⟩ ((RdMk.of_len (hG.rd hF) (hK.rd hF) (by have := hG.1; omega) (by have := hK.1; omega) (marks_rows9 hmk)).below hb) hPG2 (hTab.below h1) (hSg.below h1) sk fa hsk hfa
    clear hM hB hh hv hR him hjm hk hj hPG hPG2
    have hsz0 : ∀ x, w.heap.size < (ext (w.alloc (.cells #[.slice A n c, .slice B m d, .int .i64 q0, .int .i64 q1, .int .i64 q2, .int .i64 q3] 39)) x).heap.size := fun x => Nat.lt_of_lt_of_le (by simp [go_sem]) (ext_le (w.alloc (.cells #[.slice A n c, .slice B m d, .int .i64 q0, .int .i64 q1, .int .i64 q2, .int .i64 q3] 39)) x)
    have hne1 : ∀ x, ¬ (w.heap.size = (ext (w.alloc (.cells #[.slice A n c, .slice B m d, .int .i64 q0, .int .i64 q1, .int .i64 q2, .int .i64 q3] 39)) x).heap.size) := fun x => by have := hsz0 x; omega
    have hne2 : ∀ x, ¬ ((ext (w.alloc (.cells #[.slice A n c, .slice B m d, .int .i64 q0, .int .i64 q1, .int .i64 q2, .int .i64 q3] 39)) x).heap.size = w.heap.size) := fun x => by have := hsz0 x; omega
    go_enter Tryz.func38, Tryz.ntmps38
    go_wp2_with (first | (go_at_call 13; ((with_reducible refine (cr _ bqq).mono ?_); rintro e w' ⟨I, n2, c2, GA, gn, gc, KA, kn, kc, x2, R, rfl, rfl, hF, hP⟩; (have hIt := hP.1); (have hGt := hP.2.1); (have hKt := hP.2.2); have hs2 := hsz0 x2)) | (go_at_call 84; ((with_reducible refine (ch _ I n2 c2 ((hir _ I n2 c2 _ _ R hF hIt).below bqq)).mono ?_); rintro e w' ⟨rfl, rfl⟩)) | (go_at_call 85; ((with_reducible refine (ck _).mono ?_); rintro e w' ⟨rfl, rfl⟩)) | (go_at_call 86; ((with_reducible refine (cw _ I n2 c2 ((hir _ I n2 c2 _ _ R hF hIt).below bqq)).mono ?_); rintro e w' ⟨I3, n3, c3, x3, R3, rfl, rfl, hF3, hI3⟩; have hF4 := hF3.setLow (g := (ext (w.alloc (.cells #[.slice A n c, .slice B m d, .int .i64 q0, .int .i64 q1, .int .i64 q2, .int .i64 q3] 39)) x2).heap.size) (k := 0) (v := .slice I3 n3 c3) (show (ext (w.alloc (.cells #[.slice A n c, .slice B m d, .int .i64 q0, .int .i64 q1, .int .i64 q2, .int .i64 q3] 39)) x2).heap.size < ((ext (w.alloc (.cells #[.slice A n c, .slice B m d, .int .i64 q0, .int .i64 q1, .int .i64 q2, .int .i64 q3] 39)) x2).alloc (.cells #[.slice I n2 c2, .slice GA gn gc, .slice KA kn kc, .int .i64 s1, .int .i64 s2, .int .i64 s3] 34)).heap.size from by simp [go_sem]))) | (go_at_call 72; ((with_reducible refine (ct _ bqq GA gn gc KA kn kc _ R _ _ bqq hF hGt hKt I3 n3 c3 R3 _ _ hF4 hI3).mono ?_); rintro e w' ⟨rfl, x4, rfl⟩)))
    go_ret2
    exact RetSK.mk_ (by rw [HV.out, HR.out]; rfl) (by rw [HK.out, HR.out]) bqq
end Go.Proofs.YtmeaklaagglmeaaGreatDoor
namespace Go.Proofs.YtmeaklaagglmeaaGreatDoor
open Go.RowKit
set_option maxHeartbeats 8000000 in
theorem specRecallProtocol_any (w : World) (A B : Option Addr) (n m c d : Nat) (els : List El) (lims : List Int) (q0 q1 q2 q3 : Int) (hc : CodeR w A n B m els lims) (s : ByteArray) (k j v : Int) (hs : s.size ≤ 1048576) :
  Calls Tryz.prog 39 #[.agg #[.slice A n c, .slice B m d, .int .i64 q0, .int .i64 q1, .int .i64 q2, .int .i64 q3], .string s, .int .i64 k, .int .i64 j, .int .i64 v] w (RetSK w (recV els q0 q1 q2 q3 (rdP els lims q0 q1 q2 q3 s) k j v) (recK (rdP els lims q0 q1 q2 q3 s) k j v)) := by
 have cr := fun W (h : Below w.heap.size w W) => specReadProtocol_any W A B n m c d els lims q0 q1 q2 q3 (hc.below h) s hs
 have hgood := fun v => @rd_good els lims q0 q1 q2 q3 s v
 generalize rdP els lims q0 q1 q2 q3 s = o at *
 unfold RetRd at cr
 cases o with
 | none =>
  simp only [Option.isSome_none, Option.getD_none] at cr
  clear hc hgood
  go_enter Tryz.func39, Tryz.ntmps39
  go_wp2_with ((go_at_call 11; ((with_reducible refine (cr _ bqq).mono ?_); rintro e w' ⟨I, n2, c2, GA, gn, gc, KA, kn, kc, x2, R, rfl, rfl, hF, hP⟩)))
  go_ret2
  exact RetSK.mk_ rfl rfl bqq
 | some p =>
  obtain ⟨its, ⟨gg, kk⟩, ⟨s1, s2, s3⟩, sk, fa⟩ := p
  simp only [Option.isSome_some, Option.getD_some] at cr
  have hB := hgood _ rfl
  simp only at hB
  clear hgood
  obtain ⟨hit, hPG, hfa, hsk⟩ := pro_of hB
  have hlen := hPG.len
  have HV : Hid (recV els q0 q1 q2 q3 (some (its, (gg, kk), (s1, s2, s3), sk, fa)) k j v = if recOk its k j v then textV els q0 q1 q2 q3 (setIts its k.toNat j.toNat v) gg kk s1 s2 s3 sk fa else ⟨#[]⟩) := rfl
  have HK : Hid (recK (some (its, (gg, kk), (s1, s2, s3), sk, fa)) k j v = recOk its k j v) := rfl
  have HR : Hid (recOk its k j v = (inB k 0 ((its.length : Int) - 1) && (inB j 0 (((its[k.toNat]?.getD zIt).1.length : Int) - 1) && inB v 0 3))) := rfl
  have e1 : IntKind.i64.wrap ((its.length : Int) - 1) = (its.length : Int) - 1 := IntWalk.i64_in _ (by omega)
  have cw := fun W => l1In_any k 0 ((its.length : Int) - 1) W
  cases h1 : inB k 0 ((its.length : Int) - 1)
  ·
   rw [h1] at cw HR
   have HR2 : Hid (recOk its k j v = false) := by unfold Hid; rw [HR.out]; rfl
   clear hc hB h1 hPG HR hlen
   obtain ⟨nl, hnl⟩ : ∃ nl, its.length = nl := ⟨_, rfl⟩
   have HN := Lib.hid hnl
   rw [hnl] at e1 cw
   clear hnl
   go_enter Tryz.func39, Tryz.ntmps39
   go_wp2_with (first | (go_at_call 11; ((with_reducible refine (cr _ bqq).mono ?_); rintro e w' ⟨I, n2, c2, GA, gn, gc, KA, kn, kc, x2, R, rfl, rfl, hF, hP⟩; (obtain rfl : n2 = nl := hP.1.1.symm.trans HN.out))) | (go_at_call 87; ((with_reducible refine (cw _).mono ?_); rintro e w' ⟨rfl, rfl⟩)))
   go_ret2
   exact RetSK.mk_ (by rw [HV.out, HR2.out]; rfl) (by rw [HK.out, HR2.out]) bqq
  ·
   rw [h1] at cw HR
   have h1i := inB_iff.1 h1
   obtain ⟨i, rfl⟩ : ∃ i : Nat, k = i := ⟨k.toNat, by omega⟩
   have hil : i < its.length := by omega
   have hit2 := item_of (hit _ (getD_mem zIt its i hil))
   obtain ⟨nl, hnl⟩ : ∃ nl, its.length = nl := ⟨_, rfl⟩
   have HN := Lib.hid hnl
   have hin : i < nl := by omega
   have hinI : (i : Int) < nl := by omega
   have hi0 : (0 : Int) ≤ i := by omega
   obtain ⟨n3, hn3⟩ : ∃ n3, (its[i]?.getD zIt).1.length = n3 := ⟨_, rfl⟩
   have HN3 := Lib.hid hn3
   rw [Int.toNat_natCast, hn3] at HR
   rw [hnl] at e1 cw
   have h13 : n3 ≤ 3 := by omega
   have e2 : IntKind.i64.wrap ((n3 : Int) - 1) = (n3 : Int) - 1 := IntWalk.i64_in _ (by omega)
   have cw2 := fun W => l1In_any j 0 ((n3 : Int) - 1) W
   have cw3 := fun W => l1In_any v 0 3 W
   have HM := Lib.hid hit2.2.1
   clear hnl hn3 h1i
   cases h2 : inB j 0 ((n3 : Int) - 1)
   ·
    rw [h2] at cw2 HR
    have HR2 : Hid (recOk its i j v = false) := by unfold Hid; rw [HR.out]; rfl
    clear hc hB h1 h2 hPG HR hlen cw3 HM hit2
    go_enter Tryz.func39, Tryz.ntmps39
    go_wp2_with (first | (go_at_call 11; ((with_reducible refine (cr _ bqq).mono ?_); rintro e w' ⟨I, n2, c2, GA, gn, gc, KA, kn, kc, x2, R, rfl, rfl, hF, hP⟩; (obtain rfl : n2 = nl := hP.1.1.symm.trans HN.out); (have hIt := hP.1); (obtain ⟨g, NA, nn, nc, MA, mn, mc, rfl, hgb, hgl, c0, c1, c3, u3, u4, hset⟩ := hIt.mk_at hF (by omega)); (obtain rfl : nn = n3 := (hF.ownT u3).len.symm.trans HN3.out))) | (go_at_call 87; ((with_reducible refine (cw _).mono ?_); rintro e w' ⟨rfl, rfl⟩)) | (go_at_call 87; ((with_reducible refine (cw2 _).mono ?_); rintro e w' ⟨rfl, rfl⟩)))
    go_ret2
    exact RetSK.mk_ (by rw [HV.out, HR2.out]; rfl) (by rw [HK.out, HR2.out]) bqq
   ·
    rw [h2] at cw2 HR
    cases h3 : inB v 0 3
    ·
     rw [h3] at cw3 HR
     have HR2 : Hid (recOk its i j v = false) := by unfold Hid; rw [HR.out]; rfl
     clear hc hB h1 h2 h3 hPG HR hlen HM hit2
     go_enter Tryz.func39, Tryz.ntmps39
     go_wp2_with (first | (go_at_call 11; ((with_reducible refine (cr _ bqq).mono ?_); rintro e w' ⟨I, n2, c2, GA, gn, gc, KA, kn, kc, x2, R, rfl, rfl, hF, hP⟩; (obtain rfl : n2 = nl := hP.1.1.symm.trans HN.out); (have hIt := hP.1); (obtain ⟨g, NA, nn, nc, MA, mn, mc, rfl, hgb, hgl, c0, c1, c3, u3, u4, hset⟩ := hIt.mk_at hF (by omega)); (obtain rfl : nn = n3 := (hF.ownT u3).len.symm.trans HN3.out))) | (go_at_call 87; ((with_reducible refine (cw _).mono ?_); rintro e w' ⟨rfl, rfl⟩)) | (go_at_call 87; ((with_reducible refine (cw2 _).mono ?_); rintro e w' ⟨rfl, rfl⟩)) | (go_at_call 87; ((with_reducible refine (cw3 _).mono ?_); rintro e w' ⟨rfl, rfl⟩)))
     go_ret2
     exact RetSK.mk_ (by rw [HV.out, HR2.out]; rfl) (by rw [HK.out, HR2.out]) bqq
    ·
     rw [h3] at cw3 HR
     have HR2 : Hid (recOk its i j v = true) := by unfold Hid; rw [HR.out]; rfl
     have h2i := inB_iff.1 h2
     obtain ⟨jj, rfl⟩ : ∃ jj : Nat, j = jj := ⟨j.toNat, by omega⟩
     have hj3 : jj < n3 := by omega
     have hj3I : (jj : Int) < n3 := by omega
     have hj0 : (0 : Int) ≤ jj := by omega
     have hjl : jj < (its[i]?.getD zIt).2.1.length := by have h4 := HM.out; have h5 := HN3.out; omega
     have hcj : Hid (((its[i]?.getD zIt).2.1.map (Value.int .i64))[jj]? = some (.int .i64 ((its[i]?.getD zIt).2.1[jj]?.getD 0))) := by unfold Hid; rw [List.getElem?_map, List.getElem?_eq_getElem hjl]; rfl
     have hPG2 : PerfG els q0 q1 q2 q3 (setIts its i jj v) gg kk s1 s2 s3 := perf_of (perfB_set (pro_perf hB) hil (inB_iff.1 h3))
     have hmk := hPG.mks
     have hmo := marksB_of hmk
     have hsl := setIts_len its i jj v
     rw [Int.toNat_natCast, Int.toNat_natCast] at HV
     obtain ⟨its2, hs2⟩ : ∃ its2, setIts its i jj v = its2 := ⟨_, rfl⟩
     have HS2 := Lib.hid hs2
     rw [hs2] at hPG2 HV hsl
     have hsR : (w.alloc (.cells #[.slice A n c, .slice B m d, .int .i64 q0, .int .i64 q1, .int .i64 q2, .int .i64 q3] 39)).heap.size = w.heap.size + 1 := by simp [go_sem]
     have ct := fun W (h1 : Below w.heap.size w W) (I : Option Addr) (n2 c2 : Nat) (GA : Option Addr) (gn gc : Nat) (KA : Option Addr) (kn kc : Nat) (R2 : Fam) (b hi : Nat) (hF2 : Fo b hi W R2) (hI2 : ItF R2 I n2 c2 its2) (hG : TbF 1 5 R2 GA gn gc gg) (hK : TbF 2 6 R2 KA kn kc kk) => ptText_any W A B n m c d els q0 q1 q2 q3 I n2 c2 its2 GA KA gn gc kn kc gg kk s1 s2 s3 ⟨⟨(hc.below h1).1, hc.2.2.1⟩, ⟨hI2.rd hF2, hI2.cap hF2⟩, hG.rd hF2⟩ (RdMk.of_len (hG.rd hF2) (hK.rd hF2) (by have := hG.1; omega) (by have := hK.1; omega) (marks_rows9 hmk)) hPG2 sk fa hsk hfa
     clear hB h1 h2 h3 hPG hPG2 HR hlen hit2 hs2 h2i
     go_enter Tryz.func39, Tryz.ntmps39
     go_wp2_with (first | (go_at_call 11; ((with_reducible refine (cr _ bqq).mono ?_); rintro e w' ⟨I, n2, c2, GA, gn, gc, KA, kn, kc, x2, R, rfl, rfl, hF, hP⟩; (obtain rfl : n2 = nl := hP.1.1.symm.trans HN.out); (have hIt := hP.1); (obtain ⟨g, NA, nn, nc, MA, mn, mc, rfl, hgb, hgl, c0, c1, c3, u3, u4, hset⟩ := hIt.mk_at hF (by omega)); (obtain rfl : nn = n3 := (hF.ownT u3).len.symm.trans HN3.out); (have ho4 := hF.at_ u4); (have hml : mn = (its[i]?.getD zIt).2.1.length := by have := ho4.len; simpa using this.symm); (have hm3 : mn = nn := hml.trans (HM.out.trans HN3.out)); (obtain ⟨gm, rfl, hmb, hmlt⟩ := Ow.form_ ho4 (by omega)); (obtain ⟨hc4, hf4⟩ := hF.cell u4 jj (.int .i64 ((its[i]?.getD zIt).2.1[jj]?.getD 0)) hcj.out); (have hgw : w.heap.size < gm := by omega); (have hnw : ¬ w.heap.size = gm := by omega); (have hnw2 : ¬ gm = w.heap.size := by omega); (have hnp : ¬ (ext (w.alloc (.cells #[.slice A n c, .slice B m d, .int .i64 q0, .int .i64 q1, .int .i64 q2, .int .i64 q3] 39)) x2).heap.size = gm := by omega); (have hnp2 : ¬ gm = (ext (w.alloc (.cells #[.slice A n c, .slice B m d, .int .i64 q0, .int .i64 q1, .int .i64 q2, .int .i64 q3] 39)) x2).heap.size := by omega); (have hjm : jj < mn := by omega); (have hjmI : (jj : Int) < mn := by omega); (clear hml hm3); (have hGt := hP.2.1.of (R' := upd R (4, i) (rowI (some ⟨gm, 0, none⟩) mn mc ((its[i]?.getD zIt).2.1.set jj v))) (upd_ne _ _ (by simp)) (fun j => upd_ne _ _ (by simp))); (have hKt := hP.2.2.of (R' := upd R (4, i) (rowI (some ⟨gm, 0, none⟩) mn mc ((its[i]?.getD zIt).2.1.set jj v))) (upd_ne _ _ (by simp)) (fun j => upd_ne _ _ (by simp))); (have hIs := hset jj v); (rw [HS2.out] at hIs); (have G1 := hF.store u4 jj (.int .i64 v)); (have eR : upd R (4, i) ⟨3, 1, some ⟨gm, 0, none⟩, mn, mc, ((its[i]?.getD zIt).2.1.map (Value.int .i64)).set jj (.int .i64 v)⟩ = upd R (4, i) (rowI (some ⟨gm, 0, none⟩) mn mc ((its[i]?.getD zIt).2.1.set jj v)) := by unfold rowI; rw [List.map_set]); (rw [eR] at G1); (have G2 := G1.below (bAlloc (Below.refl _ _) (.cells #[.slice (some ⟨g, 0, none⟩) n2 c2, .slice GA gn gc, .slice KA kn kc, .int .i64 s1, .int .i64 s2, .int .i64 s3] 34))))) | (go_at_call 87; ((with_reducible refine (cw _).mono ?_); rintro e w' ⟨rfl, rfl⟩)) | (go_at_call 87; ((with_reducible refine (cw2 _).mono ?_); rintro e w' ⟨rfl, rfl⟩)) | (go_at_call 87; ((with_reducible refine (cw3 _).mono ?_); rintro e w' ⟨rfl, rfl⟩)) | (go_at_call 75; ((with_reducible refine (ct _ bqq _ n2 c2 GA gn gc KA kn kc _ _ _ G2 hIs hGt hKt).mono ?_); rintro e w' ⟨rfl, x4, rfl⟩)))
     go_ret2
     exact RetSK.mk_ (by rw [HV.out, HR2.out]; rfl) (by rw [HK.out, HR2.out]) bqq
end Go.Proofs.YtmeaklaagglmeaaGreatDoor
