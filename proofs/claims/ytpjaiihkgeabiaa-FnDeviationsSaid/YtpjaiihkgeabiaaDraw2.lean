/- The reference's cursor: pick, one, among. Conditions: fewer than 2^40 choices, inputs below 2^40 bytes. -/
import Derived.Test.YtpjaiihkgeabiaaDraw
set_option linter.unusedVariables false
set_option linter.unusedSimpArgs false
set_option maxRecDepth 100000
namespace Go.Proofs.Ytpjaiihkgeabiaa
open Go.RowKit
theorem RetNx.weak {w : World} {g : Nat} {A : Option Addr} {n c k k' : Nat} {lo hi : Int} {e : Ending} {w' : World} (h : RetNx w g A n c k lo hi e w') (hk : k ≤ k') : RetNx w g A n c k' lo hi e w' := by
  obtain ⟨r, h1, h2, h3, h4⟩ := h; exact ⟨r, h1, h2, h3.mono hk, h4⟩
theorem RdY.kept {w w' : World} {A : Option Addr} {n g : Nat} {l : List Int} (h : RdY w A n l) (hg : w.grownBy w' (some g)) (hne : 0 < n → blkOf A ≠ some g) : RdY w' A n l := by
  refine ⟨⟨h.1.1, fun hn => ?_⟩, h.2⟩
  obtain ⟨b, off, rfl, hlt, hc⟩ := h.1.2 hn
  refine ⟨b, off, rfl, Nat.lt_of_lt_of_le hlt hg.size, fun j u hu => ?_⟩
  exact hg.cell (a := ⟨b, off + j, none⟩) (hc j u hu) (fun e => hne (by omega) e)
theorem RdI.kept {w w' : World} {A : Option Addr} {n g : Nat} {l : List Int} (h : RdI w A n l) (hg : w.grownBy w' (some g)) (hne : blkOf A ≠ some g) : RdI w' A n l := by
  refine ⟨h.1, fun hn => ?_⟩
  obtain ⟨b, off, rfl, hlt, hc⟩ := h.2 hn
  refine ⟨b, off, rfl, Nat.lt_of_lt_of_le hlt hg.size, fun j u hu => ?_⟩
  exact hg.cell (a := ⟨b, off + j, none⟩) (hc j u hu) (fun e => hne e)
set_option maxHeartbeats 1000000 in
theorem pick_any (w : World) (g : Nat) (A : Option Addr) (n c k : Nat) (l : List Int) (q : Int) (hC : CurW w g A n c k) (hr : RdY w A n l) (hne : 0 < n → blkOf A ≠ some g) (hn : n ≤ 9223372036854775807) (hk : k ≤ 1099511627000) (hq1 : 1 ≤ q) (hq2 : q ≤ 1099511627776) :
    Calls Try.prog 25 #[.pointer (some ⟨g, 0, none⟩), .int .i64 q] w (RetNx w g A n c (k + 2) 0 (q - 1)) := by
  by_cases h1 : q ≤ 1
  · obtain rfl : q = 1 := by omega
    go_enter Try.func25, Try.ntmps25
    go_wp2
    go_ret
    exact ⟨0, by omega, rfl, hC.mono (by omega), World.grownBy.refl _ _⟩
  · by_cases h2 : 200 < q
    · go_enter Try.func25, Try.ntmps25
      go_wp2_with fail
      refine (next_any _ g A n c k l hC hr hne hn (by omega)).mono ?_
      rintro e w1 ⟨r1, ⟨ha0, ha1⟩, rfl, hC1, hg1⟩
      go_wp2_with fail
      refine (next_any _ g A n c (k + 1) l hC1 (hr.kept hg1 hne) hne hn (by omega)).mono ?_
      rintro e w2 ⟨r2, ⟨hb0, hb1⟩, rfl, hC2, hg2⟩
      go_wp2
      go_ret
      have h3 := Int.emod_nonneg (r1 * 256 + r2) (show q ≠ 0 by omega)
      have h4 := Int.emod_lt_of_pos (r1 * 256 + r2) (show 0 < q by omega)
      exact ⟨_, ⟨h3, by omega⟩, rfl, hC2, hg1.trans hg2⟩
    · go_enter Try.func25, Try.ntmps25
      go_wp2_with fail
      refine (next_any _ g A n c k l hC hr hne hn (by omega)).mono ?_
      rintro e w1 ⟨r1, ⟨ha0, ha1⟩, rfl, hC1, hg1⟩
      go_wp2
      go_ret
      have h3 := Int.emod_nonneg r1 (show q ≠ 0 by omega)
      have h4 := Int.emod_lt_of_pos r1 (show 0 < q by omega)
      exact ⟨_, ⟨h3, by omega⟩, rfl, hC1.mono (by omega), hg1⟩
def RetOn (w : World) (g : Nat) (A : Option Addr) (n c k : Nat) (e : Ending) (w' : World) : Prop := ∃ b : Bool, e = .returned (.bool b) ∧ CurW w' g A n c k ∧ w.grownBy w' (some g)
theorem one_any (w : World) (g : Nat) (A : Option Addr) (n c k : Nat) (l : List Int) (q : Int) (hC : CurW w g A n c k) (hr : RdY w A n l) (hne : 0 < n → blkOf A ≠ some g) (hn : n ≤ 9223372036854775807) (hk : k ≤ 1099511627000) (hq1 : 1 ≤ q) (hq2 : q ≤ 1099511627776) :
    Calls Try.prog 48 #[.pointer (some ⟨g, 0, none⟩), .int .i64 q] w (RetOn w g A n c (k + 2)) := by
  go_enter Try.func48, Try.ntmps48
  go_wp2_with fail
  refine (pick_any _ g A n c k l q hC hr hne hn hk hq1 hq2).mono ?_
  rintro e w1 ⟨r1, ⟨ha0, ha1⟩, rfl, hC1, hg1⟩
  go_wp2
  go_ret
  exact ⟨_, rfl, hC1, hg1⟩
def RetAm (w : World) (g : Nat) (A : Option Addr) (n c k : Nat) (L : List Int) (e : Ending) (w' : World) : Prop := ∃ r : Int, r ∈ L ∧ e = .returned (.int .i64 r) ∧ CurW w' g A n c k ∧ w.grownBy w' (some g)
theorem among_any (w : World) (g : Nat) (A : Option Addr) (n c k : Nat) (l : List Int) (B : Option Addr) (m d : Nat) (L : List Int) (hC : CurW w g A n c k) (hr : RdY w A n l) (hne : 0 < n → blkOf A ≠ some g) (hn : n ≤ 9223372036854775807) (hk : k ≤ 1099511627000) (hb : RdI w B m L) (hneb : blkOf B ≠ some g) (hm1 : 1 ≤ m) (hm2 : m ≤ 1099511627776) :
    Calls Try.prog 41 #[.pointer (some ⟨g, 0, none⟩), .slice B m d] w (RetAm w g A n c (k + 2) L) := by
  have hl := hb.len
  go_enter Try.func41, Try.ntmps41
  go_wp2_with fail
  refine (pick_any _ g A n c k l m hC hr hne hn hk (by omega) (by omega)).mono ?_
  rintro e w1 ⟨r1, ⟨ha0, ha1⟩, rfl, hC1, hg1⟩
  obtain ⟨b, off, rfl, hlt, hc⟩ := (hb.kept hg1 hneb).open_ (by omega)
  obtain ⟨i, rfl⟩ : ∃ i : Nat, r1 = i := ⟨r1.toNat, by omega⟩
  have hi := hc i (by omega)
  rw [List.getD_eq_getElem?_getD] at hi
  have hm := getD_mem 0 L i (by omega)
  clear hc
  have hiI : (i : Int) < m := by omega
  go_wp2
  go_ret
  exact ⟨_, hm, rfl, hC1, hg1⟩
end Go.Proofs.Ytpjaiihkgeabiaa
