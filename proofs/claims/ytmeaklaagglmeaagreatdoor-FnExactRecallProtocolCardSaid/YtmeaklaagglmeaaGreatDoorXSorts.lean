/- The library's sort, least and greatest of ints in my words; the program's and the reference's sorted copies. Conditions: lengths below 2^40. -/
import Derived.Test.YtmeaklaagglmeaaGreatDoorXShelf
import Derived.Test.YtmeaklaagglmeaaGreatDoorXSortP
import Derived.Test.YtmeaklaagglmeaaGreatDoorXInts
import Derived.Test.YtmeaklaagglmeaaGreatDoorXLawKit
import Derived.Sort.OwnSortedInts
import Derived.Deep.RegionLaw
set_option linter.unusedVariables false
set_option linter.unusedSimpArgs false
set_option maxRecDepth 100000
namespace Go.Proofs.YtmeaklaagglmeaaGreatDoor
open Go.Sort Go.RowKit
theorem maxInts_any (w : World) (A : Option Addr) (n c : Nat) (l : List Int) (ha : RdI w A n l) (h0 : 0 < n) (hn : n ≤ 1099511627776) :
  Calls Tryz.prog 247 #[.slice A n c] w fun e w' => e = .returned (.int .i64 (Lib.maxOf l)) ∧ w = w' := by
 have hl := ha.len
 obtain ⟨b, off, rfl, hb, hc⟩ := ha.open_ h0
 refine (Tryz.slices_Max_int b off n c l w h0 (by omega) (by omega) (fun j hj => hc j (by omega))).mono fun e w' h => ?_
 rw [List.take_of_length_le (by omega)] at h
 exact ⟨h.1, h.2.symm⟩
theorem minInts_any (w : World) (A : Option Addr) (n c : Nat) (l : List Int) (ha : RdI w A n l) (h0 : 0 < n) (hn : n ≤ 1099511627776) :
  Calls Tryz.prog 248 #[.slice A n c] w fun e w' => e = .returned (.int .i64 (Lib.minOf l)) ∧ w = w' := by
 have hl := ha.len
 obtain ⟨b, off, rfl, hb, hc⟩ := ha.open_ h0
 refine (Tryz.slices_Min_int b off n c l w h0 (by omega) (by omega) (fun j hj => hc j (by omega))).mono fun e w' h => ?_
 rw [List.take_of_length_le (by omega)] at h
 exact ⟨h.1, h.2.symm⟩
theorem RdI.drop_ {w : World} {b off n : Nat} {l : List Int} (h : RdI w (some ⟨b, off, none⟩) n l) (j : Nat) (hj : j ≤ n) : RdI w (some ⟨b, off + j, none⟩) (n - j) (l.drop j) := by
 have hl := h.len
 refine ⟨by simp; omega, fun hn => ?_⟩
 obtain ⟨b', off', e, hlt, hc⟩ := h.2 (by omega)
 injection e with e
 injection e with e1 e2
 subst e1 e2
 refine ⟨b, off + j, rfl, hlt, fun i u hu => ?_⟩
 have := hc (j + i) u (by simpa [List.getElem?_drop] using hu)
 rw [Nat.add_assoc]
 exact this
theorem step_app_int {ops : Array Oper} {o : Oper} {a : Act} {K : Act → World → Prop} {Q : Exit → Act → World → Prop} {E : Prop} (R : World) {W : World} (hgd : o.guard = none) (s x : Operand) (ho : o.op = .call { callee := .builtin .append, args := #[s, x], argTypes := #[23, 23] })
  (A : Option Addr) (n c : Nat) (l : List Int) (hs : a.eval s = .slice A n c) {W₀ : World} (hown₀ : OwI R.heap.size W₀ A n c l) (hW₀ : Below W₀.heap.size W₀ W) (hR : Below R.heap.size R W)
  (B : Option Addr) (m d : Nat) (r : List Int) (hx : a.eval x = .slice B m d) {W₁ : World} (hr₁ : RdI W₁ B m r) (hW₁ : Below W₁.heap.size W₁ W) (hn : n + m ≤ 1099511627776)
  (h : ∀ A' c' y, OwI R.heap.size (ext R y) A' (n + m) c' (l ++ r) → W.grownBy (ext R y) (blkOf A) → (blkOf A' = blkOf A ∨ blkOf A' = some W.heap.size) → K (a.put o.dst (.slice A' (n + m) c')) (ext R y)) :
  if Region.wanted o (yielded ops a.tmps) = true then Oper.wp Tryz.prog o a W K Q else E := by
 have hw : Region.wanted o (yielded ops a.tmps) = true := by simp [Region.wanted, hgd]
 rw [if_pos hw]
 have hown := hown₀.below hW₀
 have hr := hr₁.below hW₁
 obtain ⟨i0, hi0, hz0, hz1, hz2⟩ := info_parts int_info
 obtain ⟨v', w', hrun, h2, h3, h4⟩ := run_append_rd (P := Tryz.prog) W R.heap.size 23 o.type 3 i0 (.int .i64 0) 1 8 Tryz.underlying23 hi0 hz0 hz1 hz2 rfl (by omega) (.slice A n c) n (l.map (Value.int .i64)) hown B m d (r.map (Value.int .i64)) hr
  (by intro u hu; simp only [List.mem_map] at hu; obtain ⟨z, _, rfl⟩ := hu; rfl) (by simp only [maxLen]; omega) (by omega) hR.size
 unfold Oper.wp execOp
 simp only [ho, resolve, invoke, builtin, Sem.run_bind, Sem.run_pure, Result.andThen_ok, List.map_toArray, List.map_cons, List.map_nil, hs, hx, hrun]
 rw [ownBlock_slice] at h3 h4
 have hBw : Below R.heap.size R w' := below_grown hR h3 (fun k hk => (hown.blk hk).1)
 obtain ⟨y, rfl⟩ := ext_ex hBw
 have hm : l.map (Value.int .i64) ++ r.map (Value.int .i64) = (l ++ r).map (Value.int .i64) := by simp
 rw [hm] at h2
 rcases h2.2 with ⟨hv, h0⟩ | ⟨g', cap, cur, hv, hrest⟩
 ·
  subst hv
  rw [ownBlock_slice] at h4
  have e : Value.slice none 0 0 = .slice none (n + m) 0 := by rw [h0]
  rw [e] at h2 ⊢
  exact h none 0 y h2 h3 h4
 ·
  subst hv
  rw [ownBlock_slice] at h4
  exact h _ _ y h2 h3 h4
theorem RdI.one_ {w : World} {b : Nat} {x : Int} (hb : b < w.heap.size) (h : w.cell? ⟨b, 0, none⟩ = some (.int .i64 x)) : RdI w (some ⟨b, 0, none⟩) 1 [x] :=
 ⟨by simp, fun _ => ⟨b, 0, rfl, hb, fun j u hu => by
  match j with
  | 0 => simp at hu; subst hu; exact h
  | j + 1 => simp at hu⟩⟩
end Go.Proofs.YtmeaklaagglmeaaGreatDoor
