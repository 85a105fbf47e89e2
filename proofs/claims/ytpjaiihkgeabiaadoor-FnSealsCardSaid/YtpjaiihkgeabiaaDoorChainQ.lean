/- Plain facts on chains for the law FnChains: what a chain's links are, a chain of all records but the last, a record replaced. Conditions: none. -/
import Derived.Test.YtpjaiihkgeabiaaDoorJoin
set_option linter.unusedVariables false
set_option linter.unusedSimpArgs false
set_option maxRecDepth 100000
namespace Go.Proofs.YtpjaiihkgeabiaaDoor
open Go.RowKit
theorem RdT.take_ {w : World} {A : Option Addr} {n : Nat} {l : List ByteArray} (h : RdT w A n l) (k : Nat) (hk : k ≤ n) : RdT w A k (l.take k) := by
  have := Rd.take_ h k hk
  unfold RdT
  rw [List.map_take]
  simpa using this
theorem chainV_len (l : List ByteArray) : (chainV l).length = l.length := linksTo_len _ _
theorem chainV_get (l : List ByteArray) (k : Nat) (hk : k < l.length) : (chainV l)[k]?.getD 0 = linkAt l (k + 1) := by simp [chainV, linksTo, hk]
theorem chainV_bd (l : List ByteArray) : allB (chainV l) 0 1000002 = true := by
  rw [allB, List.all_eq_true]
  intro x hx
  simp only [chainV, linksTo, List.mem_map, List.mem_range] at hx
  obtain ⟨i, _, rfl⟩ := hx
  exact inB_iff.2 (linkAt_bd l (i + 1))
theorem chainV_ok {l : List ByteArray} (h : recsB l = true) : chainB (chainV l) = true := by
  simp only [chainB, Bool.and_eq_true, decide_eq_true_eq]
  exact ⟨by rw [chainV_len]; exact (recsB_of h).2, chainV_bd l⟩
theorem chainR_yes {l : List ByteArray} (h : recsB l = true) : chainR l = chainV l := by simp [chainR, h]
theorem dmg_own {l : List ByteArray} (h : recsB l = true) : dmgOk l (chainV l) = true ∧ dmgV l (chainV l) = l.length := by
  have h1 : dmgOk l (chainV l) = true := by simp [dmgOk, h, chainV_ok h, chainV_len]
  refine ⟨h1, dmg_end rfl h1 fun j hj => ?_⟩
  show badAt l (chainV l) j = false
  have hb : beforeAt (chainV l) j = linkAt l j := by
    unfold beforeAt
    split
    · rename_i e; subst e; rfl
    · rw [chainV_get l (j - 1) (by omega), show j - 1 + 1 = j from by omega]
  rw [badAt, hb, chainV_get l j hj, linkAt]
  simp
theorem link_step {l : List ByteArray} (h : recsB l = true) (k : Nat) (hk : k < l.length) : linkOk (linkAt l k) (l[k]?.getD ByteArray.empty) = true ∧ linkR (linkAt l k) (l[k]?.getD ByteArray.empty) = linkAt l (k + 1) := by
  have h1 : linkOk (linkAt l k) (l[k]?.getD ByteArray.empty) = true := by
    simp only [linkOk, Bool.and_eq_true, decide_eq_true_eq]
    exact ⟨inB_iff.2 (linkAt_bd l k), (recsB_of h).1 _ (getD_mem ByteArray.empty l k hk)⟩
  exact ⟨h1, by simp [linkR, h1, linkAt]⟩
theorem linkAt_congr {a b : List ByteArray} (k : Nat) (h : ∀ j, j < k → a[j]? = b[j]?) : linkAt a k = linkAt b k := by
  induction k with
  | zero => rfl
  | succ k ih => rw [linkAt, linkAt, ih (fun j hj => h j (by omega)), h k (by omega)]
theorem linksTo_congr {a b : List ByteArray} (k : Nat) (h : ∀ j, j < k → a[j]? = b[j]?) : linksTo a k = linksTo b k := by
  unfold linksTo
  refine List.map_congr_left fun i hi => linkAt_congr _ fun j hj => h j ?_
  simp at hi; omega
theorem recsB_take {l : List ByteArray} (h : recsB l = true) (k : Nat) : recsB (l.take k) = true := by
  have h1 := recsB_of h
  simp only [recsB, Bool.and_eq_true, decide_eq_true_eq]
  exact ⟨List.all_eq_true.2 fun s hs => decide_eq_true (h1.1 s (List.mem_of_mem_take hs)), by simp; omega⟩
/-- All records but the last, and the last one's link. -/
theorem ext_last {l : List ByteArray} (h : recsB l = true) {n : Nat} (hn : l.length = n + 1) :
    recsB (l.take n) = true ∧ extOk (chainV (l.take n)) (l[n]?.getD ByteArray.empty) = true ∧ extV (chainV (l.take n)) (l[n]?.getD ByteArray.empty) = chainV l := by
  have h0 := recsB_take h n
  have hl : (l.take n).length = n := by simp; omega
  have h40 := (recsB_of h).2
  have h1 : extOk (chainV (l.take n)) (l[n]?.getD ByteArray.empty) = true := by
    simp only [extOk, Bool.and_eq_true, decide_eq_true_eq, Bool.not_eq_true', decide_eq_false_iff_not]
    exact ⟨⟨chainV_ok h0, (recsB_of h).1 _ (getD_mem ByteArray.empty l n (by omega))⟩, by rw [chainV_len, hl]; omega⟩
  refine ⟨h0, h1, ?_⟩
  have hc : linksTo (l.take n) n = linksTo l n := linksTo_congr n fun j hj => by simp [List.getElem?_take, hj]
  have ht : chainV (l.take n) = linksTo l n := by rw [chainV, hl, hc]
  have hlast : lastOf (linksTo l n) = linkAt l n := by
    unfold lastOf
    rw [linksTo_len]
    cases n with
    | zero => simp [linksTo, linkAt]
    | succ m => simp [linksTo]
  rw [extV, if_pos h1, ht, hlast, show chainV l = linksTo l (n + 1) from by rw [chainV, hn], linksTo_succ, linkAt]
/-- A record replaced. -/
theorem rep_facts {l : List ByteArray} {k : Int} {s : ByteArray} (h : repOk l k s = true) :
    ∃ i : Nat, k = i ∧ i < l.length ∧ recsB l = true ∧ repL l k s = l.set i s ∧ repC l k s = chainV (l.set i s) ∧ dmgOk (l.set i s) (chainV (l.set i s)) = true ∧ dmgV (l.set i s) (chainV (l.set i s)) = l.length ∧
      (l.set i s)[i]?.getD ByteArray.empty = s ∧ ∀ j, j < i → (chainV (l.set i s))[j]?.getD 0 = (chainV l)[j]?.getD 0 := by
  have h' := h
  simp only [repOk, Bool.and_eq_true, decide_eq_true_eq] at h'
  obtain ⟨⟨h1, h2⟩, h3⟩ := h'
  have h2 := inB_iff.1 h2
  have hr := recsB_of h1
  obtain ⟨i, rfl⟩ : ∃ i : Nat, k = i := ⟨k.toNat, by omega⟩
  have hi : i < l.length := by omega
  have hs : recsB (l.set i s) = true := by
    simp only [recsB, Bool.and_eq_true, decide_eq_true_eq]
    exact ⟨List.all_eq_true.2 fun x hx => decide_eq_true (set_sz hr.1 h3 x hx), by simp; exact hr.2⟩
  have hd := dmg_own hs
  refine ⟨i, rfl, hi, h1, by simp [repL, h], by simp [repC, h], hd.1, by rw [hd.2]; simp, by simp [hi], fun j hj => ?_⟩
  rw [chainV_get _ j (by simp; omega), chainV_get _ j (by omega)]
  exact linkAt_congr _ fun q hq => by rw [List.getElem?_set_ne (by omega)]
end Go.Proofs.YtpjaiihkgeabiaaDoor
