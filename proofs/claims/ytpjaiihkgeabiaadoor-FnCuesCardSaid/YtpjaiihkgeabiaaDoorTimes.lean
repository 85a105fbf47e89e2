/- Contracts of the timing functions (tiGood, tiEnd, EndTime, StartTimes, WarmUpTimes, DelayedTimes, OnIce, GreatestGap), in the program and in the reference. Conditions: slices below 2^40 elements. -/
import Derived.Test.YtpjaiihkgeabiaaDoorRun
set_option linter.unusedVariables false
set_option linter.unusedSimpArgs false
set_option maxRecDepth 100000
namespace Go.Proofs.YtpjaiihkgeabiaaDoor
open Go.RowKit
section
variable (l : List (Int × Int)) (a b c gap i i' : Int)
theorem nxtT_zero (k : Nat) (t : Int) : nxtT l gap i 0 k t = nxtT l gap i' 0 k t := by unfold nxtT; split <;> split <;> rfl
theorem innT_zero (k0 : Nat) (t0 : Int) (j : Nat) : innT l gap i 0 k0 t0 j = innT l gap i' 0 k0 t0 j := by
  induction j with
  | zero => rfl
  | succ j ih => rw [innT, innT, ih, nxtT_zero l gap i i']
theorem innS_zero (k0 : Nat) (t0 : Int) (j : Nat) : innS l gap i 0 k0 t0 j = innS l gap i' 0 k0 t0 j := by
  unfold innS; congr 1; funext j; exact innT_zero l gap i i' k0 t0 j
theorem outT_zero (gs : List Int) (g : Nat) : outT l a c gap i 0 gs g = outT l a c gap i' 0 gs g := by
  induction g with
  | zero => rfl
  | succ g ih => rw [outT, outT, ih, innT_zero l gap i i']
theorem outS_zero (gs : List Int) (g : Nat) : outS l a c gap i 0 gs g = outS l a c gap i' 0 gs g := by
  induction g with
  | zero => rfl
  | succ g ih => rw [outS, outS, ih, outT_zero l a c gap i i', innS_zero l gap i i']
theorem outW_zero (gs : List Int) (g : Nat) : outW l a c gap i 0 gs g = outW l a c gap i' 0 gs g := by
  unfold outW; congr 1; funext j; exact outT_zero l a c gap i i' gs j
theorem runS_zero : runS l a b c gap i 0 = runS l a b c gap i' 0 := outS_zero l a c gap i i' _ _
theorem runW_zero : runW l a b c gap i 0 = runW l a b c gap i' 0 := outW_zero l a c gap i i' _ _
theorem runT_zero : runT l a b c gap i 0 = runT l a b c gap i' 0 := outT_zero l a c gap i i' _ _
end
def timedB (l : List (Int × Int)) (a b c gap : Int) : Bool := slotsB l && dayB a b c gap
theorem timedB_of {l : List (Int × Int)} {a b c gap : Int} (h : timedB l a b c gap = true) : slotsB l = true ∧ dayB a b c gap = true := by simpa [timedB] using h
theorem runS_len {l : List (Int × Int)} {a b c gap i delay : Int} (h : slotsB l = true) (hb : 1 ≤ b) : (runS l a b c gap i delay).length = l.length := by
  have := slotsB_of h
  have h2 := groups_all l.length b (by omega) hb
  unfold runS
  rw [outS_len _ _ _ _ _ _ _ _ (Nat.le_refl _)]
  omega
theorem runT_bd {l : List (Int × Int)} {a b c gap i delay : Int} (h : timedB l a b c gap = true) (hd0 : 0 ≤ delay) (hd1 : delay ≤ 3600) : 0 ≤ runT l a b c gap i delay ∧ runT l a b c gap i delay ≤ 1000000 := by
  obtain ⟨h1, h2⟩ := timedB_of h
  simp only [dayB, Bool.and_eq_true] at h2
  obtain ⟨⟨⟨ka, kb⟩, kc⟩, kg⟩ := h2
  replace ka := inB_iff.1 ka
  replace kb := inB_iff.1 kb
  replace kc := inB_iff.1 kc
  replace kg := inB_iff.1 kg
  have hs := slotsB_of h1
  have hga := groups_all l.length b (by omega) kb.1
  have hgl := groupsOf_len l.length b (by omega) kb.1
  have ht : Timed l gap delay := ⟨fun k hk => by have := slotsB_music h1 k hk; omega, kg.1, kg.2, hd0, hd1⟩
  have := outT_bd (i := i) (g := (groupsOf l.length b).length) (gs := groupsOf l.length b) ht kc.1 kc.2 ka.1 ka.2 (Nat.le_refl _) (by omega)
  unfold runT
  omega
theorem mem_range_bd {P : Int → Prop} {n : Nat} {f : Nat → Int} (h : ∀ j, j < n → P (f j)) : ∀ x ∈ (List.range n).map f, P x := by
  intro x hx
  simp only [List.mem_map, List.mem_range] at hx
  obtain ⟨j, hj, rfl⟩ := hx
  exact h j hj
theorem runS_bd {l : List (Int × Int)} {a b c gap i delay : Int} (h : timedB l a b c gap = true) (hd0 : 0 ≤ delay) (hd1 : delay ≤ 3600) : ∀ x ∈ runS l a b c gap i delay, 0 ≤ x ∧ x ≤ 1000000 := by
  obtain ⟨h1, h2⟩ := timedB_of h
  simp only [dayB, Bool.and_eq_true] at h2
  obtain ⟨⟨⟨ka, kb⟩, kc⟩, kg⟩ := h2
  replace ka := inB_iff.1 ka
  replace kb := inB_iff.1 kb
  replace kc := inB_iff.1 kc
  replace kg := inB_iff.1 kg
  have hs := slotsB_of h1
  have hga := groups_all l.length b (by omega) kb.1
  have hgl := groupsOf_len l.length b (by omega) kb.1
  have ht : Timed l gap delay := ⟨fun k hk => by have := slotsB_music h1 k hk; omega, kg.1, kg.2, hd0, hd1⟩
  unfold runS
  generalize groupsOf l.length b = gs at hga hgl ⊢
  have key : ∀ g, g ≤ gs.length → ∀ x ∈ outS l a c gap i delay gs g, 0 ≤ x ∧ x ≤ 1000000 := by
    intro g
    induction g with
    | zero => intro _ x hx; simp [outS] at hx
    | succ g ih =>
      intro hg x hx
      have hk := outK_succ gs g (by omega)
      have hm := outK_mono gs (g + 1) gs.length (by omega)
      have hT := outT_bd (i := i) (g := g) (gs := gs) ht kc.1 kc.2 ka.1 ka.2 (by omega) (by omega)
      rw [outS, List.mem_append] at hx
      rcases hx with hx | hx
      · exact ih (by omega) x hx
      · refine mem_range_bd (P := fun x => 0 ≤ x ∧ x ≤ 1000000) (fun j hj => ?_) x hx
        have := innT_bd (i := i) (k0 := outK gs g) (t0 := outT l a c gap i delay gs g + c) (j := j) ht (by omega)
        omega
  exact key gs.length (Nat.le_refl _)
theorem tiGood_any (w : World) (L : Option Addr) (n cl : Nat) (l : List (Int × Int)) (a b c gap : Int) (hl : RdS w L n l) (hn : n ≤ 1099511627776) :
    Calls Tryd.prog 75 #[.slice L n cl, .agg #[.int .i64 a, .int .i64 b, .int .i64 c, .int .i64 gap]] w fun e w' => e = .returned (.bool (timedB l a b c gap)) ∧ ∃ x, w' = ext w x := by
  unfold timedB
  go_enter Tryd.func75, Tryd.ntmps75
  go_wp2_with (first | (go_at_call 103; ((with_reducible refine (tiSlots_any _ _ _ _ _ (hl.below (bAlloc (Below.refl _ _) _)) hn).mono ?_); rintro e w' ⟨rfl, x, rfl⟩)) | (go_at_call 104; ((with_reducible refine (tiDay_any _ _ _ _ _).mono ?_); rintro e w' ⟨rfl, x, rfl⟩)))
  all_goals go_ret
  all_goals exact ⟨by simp [*], ext_ex (by repeat (first | exact Below.refl _ _ | assumption | refine bExt ?_ _ | refine bAlloc ?_ _ | refine bDrewN ?_ _ | refine bDrew ?_ | refine bSet ?_ (by first | exact Nat.le_refl _ | omega | (simp; done) | (simp; omega)) _))⟩
theorem areTimed_any (w : World) (L : Option Addr) (n cl : Nat) (l : List (Int × Int)) (a b c gap : Int) (hl : RdS w L n l) (hn : n ≤ 1099511627776) (hnc : n ≤ cl) :
    Calls Tryd.prog 73 #[.slice L n cl, .agg #[.int .i64 a, .int .i64 b, .int .i64 c, .int .i64 gap]] w fun e w' => e = .returned (.bool (timedB l a b c gap)) ∧ ∃ x, w' = ext w x := by
  unfold timedB
  go_enter Tryd.func73, Tryd.ntmps73
  go_wp2_with (first | (go_at_call 98; ((with_reducible refine (implAreSlots_any _ _ _ _ _ (hl.below (bAlloc (Below.refl _ _) _)) hn hnc).mono ?_); rintro e w' ⟨rfl, x, rfl⟩)) | (go_at_call 99; ((with_reducible refine (implIsDay_any _ _ _ _ _).mono ?_); rintro e w' ⟨rfl, x, rfl⟩)))
  all_goals go_ret
  all_goals exact ⟨by simp [*], ext_ex (by repeat (first | exact Below.refl _ _ | assumption | refine bExt ?_ _ | refine bAlloc ?_ _ | refine bDrewN ?_ _ | refine bDrew ?_ | refine bSet ?_ (by first | exact Nat.le_refl _ | omega | (simp; done) | (simp; omega)) _))⟩
theorem tiClock_any (a : Int) (w : World) :
    Calls Tryd.prog 83 #[.int .i64 a] w fun e w' => e = .returned (.bool (inB a 0 200000)) ∧ w = w' := by
  go_enter Tryd.func83, Tryd.ntmps83
  go_wp2_with (go_at_call 84; ((with_reducible refine (l1In_any _ _ _ _).mono ?_); rintro e w' ⟨rfl, rfl⟩))
  go_ret
  exact ⟨rfl, rfl⟩
theorem isDayTime_any (a : Int) (w : World) :
    Calls Tryd.prog 79 #[.int .i64 a] w fun e w' => e = .returned (.bool (inB a 0 200000)) ∧ w = w' := by
  go_enter Tryd.func79, Tryd.ntmps79
  go_wp2_with (go_at_call 80; ((with_reducible refine (within_any _ _ _ _).mono ?_); rintro e w' ⟨rfl, rfl⟩))
  go_ret
  exact ⟨rfl, rfl⟩
def RetIntB (w : World) (v : Int) (ok : Bool) (e : Ending) (w' : World) : Prop := ∃ x, e = .returned (.tuple #[.int .i64 v, .bool ok]) ∧ w' = ext w x
theorem RetIntB.mk_ {w W : World} {v v' : Int} {ok ok' : Bool} (hv : v' = v) (hk : ok' = ok) (hb : Below w.heap.size w W) : RetIntB w v ok (.returned (.tuple #[.int .i64 v', .bool ok'])) W := by
  obtain ⟨x, rfl⟩ := ext_ex hb
  subst hv hk
  exact ⟨x, rfl, rfl⟩
def endV (l : List (Int × Int)) (a b c gap : Int) : Int := if timedB l a b c gap then runT l a b c gap 0 0 else 0
end Go.Proofs.YtpjaiihkgeabiaaDoor
