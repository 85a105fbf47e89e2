/- Plain: all cues of a day in the order in which they are made, and their sorted list. Conditions: none. -/
import Derived.Test.YtpjaiihkgeabiaaDoorCues
import Derived.Test.YtpjaiihkgeabiaaDoorStableQ
import Derived.Test.YtpjaiihkgeabiaaDoorKnown
set_option linter.unusedVariables false
set_option linter.unusedSimpArgs false
set_option maxRecDepth 100000
namespace Go.Proofs.YtpjaiihkgeabiaaDoor
open Go.RowKit
def wmC (W : List Int) (k : Nat) : List T3 := (W.take k).map fun t => (t, 1, 0)
def slC (l : List (Int × Int)) (S : List Int) (gap : Int) (k : Nat) : List T3 := (List.range k).flatMap fun i => [(S[i]?.getD 0, 2, (l[i]?.getD (0, 0)).1), (S[i]?.getD 0 + (l[i]?.getD (0, 0)).2, 3, (l[i]?.getD (0, 0)).1), (S[i]?.getD 0 + (l[i]?.getD (0, 0)).2 + gap, 4, (l[i]?.getD (0, 0)).1)]
theorem wmC_succ (W : List Int) (k : Nat) (h : k < W.length) : wmC W (k + 1) = wmC W k ++ [(W[k]?.getD 0, 1, 0)] := by
  rw [wmC, take_succ_getD 0 W k h]; simp [wmC]
theorem slC_succ (l : List (Int × Int)) (S : List Int) (gap : Int) (k : Nat) : slC l S gap (k + 1) = slC l S gap k ++ [(S[k]?.getD 0, 2, (l[k]?.getD (0, 0)).1), (S[k]?.getD 0 + (l[k]?.getD (0, 0)).2, 3, (l[k]?.getD (0, 0)).1), (S[k]?.getD 0 + (l[k]?.getD (0, 0)).2 + gap, 4, (l[k]?.getD (0, 0)).1)] := by
  simp [slC, List.range_succ]
theorem slC_len (l : List (Int × Int)) (S : List Int) (gap : Int) (k : Nat) : (slC l S gap k).length = 3 * k := by
  induction k with
  | zero => rfl
  | succ k ih => rw [slC_succ, List.length_append, ih]; simp; omega
theorem wmC_len (W : List Int) : (wmC W W.length).length = W.length := by simp [wmC]
theorem cue_mk {t k : Int} (s : Int) (h0 : 0 ≤ t) (h1 : t ≤ 2000000) (h2 : 1 ≤ k) (h3 : k ≤ 4) : cueOk (t, k, s) := ⟨⟨h0, h1⟩, h2, h3⟩
theorem wmC_ok {W : List Int} (h : ∀ x ∈ W, 0 ≤ x ∧ x ≤ 1000000) (k : Nat) : ∀ q ∈ wmC W k, cueOk q := fun q hq => by
  obtain ⟨t, ht, rfl⟩ := List.mem_map.1 hq
  have := h t (List.mem_of_mem_take ht)
  exact cue_mk _ this.1 (by omega) (by omega) (by omega)
theorem slC_ok {l : List (Int × Int)} {S : List Int} {gap : Int} {n : Nat} (hS : ∀ k : Nat, k < n → 0 ≤ S[k]?.getD 0 ∧ S[k]?.getD 0 ≤ 1000000) (hm : ∀ k : Nat, k < n → 30 ≤ (l[k]?.getD (0, 0)).2 ∧ (l[k]?.getD (0, 0)).2 ≤ 300) (hg : 0 ≤ gap ∧ gap ≤ 300) : ∀ q ∈ slC l S gap n, cueOk q := fun q hq => by
  obtain ⟨i, hi, hq⟩ := List.mem_flatMap.1 hq
  have hi : i < n := by simpa using hi
  have h1 := hS i hi
  have h2 := hm i hi
  simp only [List.mem_cons, List.not_mem_nil, or_false] at hq
  rcases hq with rfl | rfl | rfl
  · exact cue_mk _ h1.1 (by omega) (by omega) (by omega)
  · exact cue_mk _ (by omega) (by omega) (by omega) (by omega)
  · exact cue_mk _ (by omega) (by omega) (by omega) (by omega)
theorem Rd3.three_ {w : World} {b : Nat} {x y z : T3} (hb : b < w.heap.size) (h0 : w.cell? ⟨b, 0, none⟩ = some (.int .i64 x.1)) (h1 : w.cell? ⟨b, 1, none⟩ = some (.int .i64 x.2.1)) (h2 : w.cell? ⟨b, 2, none⟩ = some (.int .i64 x.2.2))
    (h3 : w.cell? ⟨b, 3, none⟩ = some (.int .i64 y.1)) (h4 : w.cell? ⟨b, 4, none⟩ = some (.int .i64 y.2.1)) (h5 : w.cell? ⟨b, 5, none⟩ = some (.int .i64 y.2.2))
    (h6 : w.cell? ⟨b, 6, none⟩ = some (.int .i64 z.1)) (h7 : w.cell? ⟨b, 7, none⟩ = some (.int .i64 z.2.1)) (h8 : w.cell? ⟨b, 8, none⟩ = some (.int .i64 z.2.2)) : Rd3 w (some ⟨b, 0, none⟩) 3 [x, y, z] :=
  ⟨by simp [tripCells], fun _ => ⟨b, 0, rfl, hb, fun j u hu => by
    match j with
    | 0 => simp [tripCells] at hu; subst hu; exact h0
    | 1 => simp [tripCells] at hu; subst hu; exact h1
    | 2 => simp [tripCells] at hu; subst hu; exact h2
    | 3 => simp [tripCells] at hu; subst hu; exact h3
    | 4 => simp [tripCells] at hu; subst hu; exact h4
    | 5 => simp [tripCells] at hu; subst hu; exact h5
    | 6 => simp [tripCells] at hu; subst hu; exact h6
    | 7 => simp [tripCells] at hu; subst hu; exact h7
    | 8 => simp [tripCells] at hu; subst hu; exact h8
    | j + 9 => simp [tripCells] at hu⟩⟩
/-- The cues of a day as they are made. -/
def cuA (l : List (Int × Int)) (a b c gap : Int) : List T3 := wmC (runW l a b c gap 0 0) (runW l a b c gap 0 0).length ++ slC l (runS l a b c gap 0 0) gap l.length
/-- The cues in order. -/
def cuT (l : List (Int × Int)) (a b c gap : Int) : List T3 := stS cKey (cuA l a b c gap)
theorem runW_facts {l : List (Int × Int)} {a b c gap : Int} (ht : timedB l a b c gap = true) : (runW l a b c gap 0 0).length ≤ 40 ∧ ∀ x ∈ runW l a b c gap 0 0, 0 ≤ x ∧ x ≤ 1000000 := by
  obtain ⟨h1, h2⟩ := timedB_of ht
  simp only [dayB, Bool.and_eq_true] at h2
  obtain ⟨⟨⟨ka, kb⟩, kc⟩, kg⟩ := h2
  replace ka := inB_iff.1 ka
  replace kb := inB_iff.1 kb
  replace kc := inB_iff.1 kc
  replace kg := inB_iff.1 kg
  have hs := slotsB_of h1
  have hga := groups_all l.length b (by omega) kb.1
  have hgl := groupsOf_len l.length b (by omega) kb.1
  have ht : Timed l gap 0 := ⟨fun k hk => by have := slotsB_music h1 k hk; omega, kg.1, kg.2, by omega, by omega⟩
  unfold runW
  generalize groupsOf l.length b = gs at hga hgl ⊢
  refine ⟨by rw [outW_len]; omega, ?_⟩
  refine mem_range_bd (P := fun x => 0 ≤ x ∧ x ≤ 1000000) (fun j hj => ?_)
  have hm := outK_mono gs j gs.length (by omega)
  have := outT_bd (i := 0) (g := j) (gs := gs) ht kc.1 kc.2 ka.1 ka.2 (by omega) (by omega)
  omega
theorem cuA_ok {l : List (Int × Int)} {a b c gap : Int} (ht : timedB l a b c gap = true) : ∀ q ∈ cuA l a b c gap, cueOk q := fun q hq => by
  obtain ⟨h1, h2, hn40, hSl, hbd, hg0, hg1⟩ := timed_facts rfl ht
  rcases List.mem_append.1 hq with h | h
  · exact wmC_ok (runW_facts ht).2 _ q h
  · exact slC_ok (fun k hk => getD_mem_bd (k := k) (by rw [hSl]; exact hk) hbd) (fun k hk => slotsB_music h1 k hk) ⟨hg0, hg1⟩ q h
theorem cuA_len {l : List (Int × Int)} {a b c gap : Int} (ht : timedB l a b c gap = true) : (cuA l a b c gap).length ≤ 160 := by
  obtain ⟨_, _, hn40, _⟩ := timed_facts rfl ht
  have := (runW_facts ht).1
  rw [cuA, List.length_append, wmC_len, slC_len]; omega
theorem cuT_ok {l : List (Int × Int)} {a b c gap : Int} (ht : timedB l a b c gap = true) : ∀ q ∈ cuT l a b c gap, cueOk q := fun q hq => cuA_ok ht q (stS_mem hq)
theorem cuT_len {l : List (Int × Int)} {a b c gap : Int} (ht : timedB l a b c gap = true) : (cuT l a b c gap).length ≤ 160 := by
  unfold cuT; rw [stS_len]; exact cuA_len ht
end Go.Proofs.YtpjaiihkgeabiaaDoor
