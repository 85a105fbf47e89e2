/- What the reference draws for the laws on chains: records. Conditions: none. -/
import Derived.Test.YtpjaiihkgeabiaaDoorDraw5
import Derived.Test.YtpjaiihkgeabiaaDoorRecords
set_option linter.unusedVariables false
set_option linter.unusedSimpArgs false
set_option maxRecDepth 100000
namespace Go.Proofs.YtpjaiihkgeabiaaDoor
open Go.RowKit
theorem RdT.kept {w w' : World} {A : Option Addr} {n g : Nat} {l : List ByteArray} (h : RdT w A n l) (hg : w.grownBy w' (some g)) (hne : blkOf A ≠ some g) : RdT w' A n l := by
  refine ⟨h.1, fun hn => ?_⟩
  obtain ⟨b, off, rfl, hlt, hc⟩ := h.2 hn
  refine ⟨b, off, rfl, Nat.lt_of_lt_of_le hlt hg.size, fun j u hu => ?_⟩
  exact hg.cell (a := ⟨b, off + j, none⟩) (hc j u hu) (fun e => hne e)
theorem str_lit {w : World} (l : List ByteArray) (hl : l.length ≤ maxLen) (cs : Array Value) (hcs : cs.toList = l.map Value.string) : RdT (w.alloc (.cells cs 9)) (some ⟨w.heap.size, 0, none⟩) l.length l := (OwT.lit_ (Below.refl _ w) l hl cs hcs).rd
/-- A choice of strings of at most m bytes. -/
def RetOf (w : World) (g : Nat) (A : Option Addr) (n c k m : Nat) (e : Ending) (w' : World) : Prop := ∃ r : ByteArray, r.size ≤ m ∧ e = .returned (.string r) ∧ CurW w' g A n c k ∧ w.grownBy w' (some g)
theorem of_cx {R w : World} {g n c k : Nat} {A : Option Addr} {l : List Int} (h : Cx R w g A n c k l) {b : Nat} (m d M : Nat) (L : List ByteArray) (hk : k ≤ 1099511627000) (hb : RdT w (some ⟨b, 0, none⟩) m L) (hneb : g < b) (hm1 : 1 ≤ m) (hm2 : m ≤ 1099511627776) (hM : ∀ s ∈ L, s.size ≤ M) :
    Calls Tryd.prog 97 #[.pointer (some ⟨g, 0, none⟩), .slice (some ⟨b, 0, none⟩) m d] w (RetOf w g A n c (k + 2) M) := by
  have hl := hb.len
  go_enter Tryd.func97, Tryd.ntmps97
  go_wp2_with fail
  refine (pick_cx h m hk (by omega) (by omega)).mono ?_
  rintro e w1 ⟨r1, ⟨ha0, ha1⟩, rfl, hC1, hg1⟩
  obtain ⟨b', off, hbe, hlt, hc⟩ := (hb.kept hg1 (by simp [blkOf]; omega)).open_ (by omega)
  injection hbe with hbe
  injection hbe with hb1 hb2
  subst hb1 hb2
  obtain ⟨i, rfl⟩ : ∃ i : Nat, r1 = i := ⟨r1.toNat, by omega⟩
  have hi := hc i (by omega)
  rw [Nat.zero_add] at hi
  have hm := hM _ (getD_mem ByteArray.empty L i (by omega))
  clear hc
  have hiI : (i : Int) < m := by omega
  go_wp2
  go_ret
  exact ⟨_, hm, rfl, hC1, hg1⟩
def RetRec (R w : World) (g : Nat) (A : Option Addr) (n c k : Nat) (l : List Int) (e : Ending) (w' : World) : Prop := ∃ r : ByteArray, r.size ≤ 1000 ∧ e = .returned (.string r) ∧ Cx R w' g A n c k l ∧ w.grownBy w' (some g)
set_option maxHeartbeats 1000000 in
theorem record_any {R w : World} {g n c k : Nat} {A : Option Addr} {l : List Int} (h : Cx R w g A n c k l) (hk : k ≤ 1000000000) :
    Calls Tryd.prog 67 #[.pointer (some ⟨g, 0, none⟩)] w (RetRec R w g A n c (k + 6) l) := by
  have hgw := h.cur.lt
  go_enter Tryd.func67, Tryd.ntmps67
  go_wp2_with fail
  have rl := str_lit (w := w) [⟨#[]⟩, ⟨#[97]⟩, ⟨#[98]⟩, ⟨#[115, 107, 97, 116, 101, 114, 32, 53, 32, 54, 52, 46, 50, 48]⟩, ⟨#[115, 107, 97, 116, 101, 114, 32, 55, 32, 54, 49, 46, 48, 53]⟩, ⟨#[100, 114, 97, 119, 32, 57]⟩, ⟨#[120, 10]⟩] (by simp [maxLen]) _ rfl
  refine (of_cx (h.below (bAlloc (Below.refl _ w) _)) 7 7 20 _ (by omega) rl hgw (by omega) (by omega) (by decide)).mono ?_
  rintro e w1 ⟨s1, hs1, rfl, hC1, hg1⟩
  have h1 := (h.below (bAlloc (Below.refl _ w) _)).grow hC1 hg1
  have g1 := (World.grownBy_alloc w _ _).trans hg1
  clear rl
  go_wp2_with fail
  refine (one_cx h1 40 (by omega) (by omega) (by omega)).mono ?_
  rintro e w2 ⟨b, rfl, hC2, hg2⟩
  have h2 := h1.grow hC2 hg2
  have g2 := g1.trans hg2
  cases b
  · go_wp2
    go_ret
    exact ⟨s1, by omega, rfl, h2.mono (by omega), g2⟩
  · go_wp2_with fail
    refine (pick_cx h2 2 (by omega) (by omega) (by omega)).mono ?_
    rintro e w3 ⟨r3, ⟨ha0, ha1⟩, rfl, hC3, hg3⟩
    have h3 := h2.grow hC3 hg3
    have g3 := g2.trans hg3
    go_wp2_with fail
    go_loop [3] (fun s => ∃ t : ByteArray, t.size ≤ 401 ∧ s = .string t) (fun s => 401 - (match s with | .string t => t.size | _ => 0))
    case atStart => exact ⟨s1, by omega, rfl⟩
    case round =>
      obtain ⟨t, ht, rfl⟩ := hrel
      by_cases hlt : (t.size : Int) < 400 + r3
      · go_wp2
        go_round
        case rel => exact ⟨_, by rw [ByteArray.size_append, show (⟨#[46]⟩ : ByteArray).size = 1 from rfl]; omega, rfl⟩
        case measure => show 401 - (t ++ ⟨#[46]⟩).size < 401 - t.size; rw [ByteArray.size_append, show (⟨#[46]⟩ : ByteArray).size = 1 from rfl]; omega
      · go_wp2
        go_ret
        exact ⟨t, by omega, rfl, h3.mono (by omega), g3⟩
/-- What a function that draws a slice of strings from the cursor ends with. -/
def RetDT (R w : World) (g : Nat) (A : Option Addr) (n c k : Nat) (l : List Int) (e : Ending) (w' : World) : Prop := ∃ (D : Option Addr) (q z : Nat) (L : List ByteArray), e = .returned (.slice D q z) ∧ q ≤ 1000 ∧ (∀ s ∈ L, s.size ≤ 1000) ∧ Cx R w' g A n c k l ∧ OwT R.heap.size w' D q z L ∧ Nw w D ∧ w.grownBy w' (some g)
theorem sizes_push {L : List ByteArray} {s : ByteArray} {M : Nat} (h : ∀ s ∈ L, s.size ≤ M) (hs : s.size ≤ M) : ∀ t ∈ L ++ [s], t.size ≤ M := by
  intro t ht
  simp at ht
  rcases ht with ht | rfl
  · exact h t ht
  · exact hs
set_option maxHeartbeats 1000000 in
theorem records_any {R w : World} {g n c k : Nat} {A : Option Addr} {l : List Int} (h : Cx R w g A n c k l) (hk : k ≤ 1000000) :
    Calls Tryd.prog 58 #[.pointer (some ⟨g, 0, none⟩)] w (RetDT R w g A n c (k + 1000) l) := by
  have hgw := h.cur.lt
  go_enter Tryd.func58, Tryd.ntmps58
  go_wp2_with fail
  refine (pick_cx h 8 (by omega) (by omega) (by omega)).mono ?_
  rintro e w1 ⟨r1, ⟨hr0, hr1⟩, rfl, hC1, hg1⟩
  have h1 := (h.grow hC1 hg1).mono (show k + 2 ≤ k + 10 by omega)
  go_wp2_with fail
  go_loopw [3, 4] (fun v kk wr => ∃ (q : Nat) (j : Int) (D : Option Addr) (z : Nat) (L : List ByteArray), 0 ≤ j ∧ q + j ≤ 7 ∧ v = .slice D q z ∧ kk = .int .i64 j ∧ Cx R wr g A n c (k + 10 + 6 * q) l ∧ OwT R.heap.size wr D q z L ∧ (∀ s ∈ L, s.size ≤ 1000) ∧ Nw w D ∧ w.grownBy wr (some g)) (fun _ kk _ => (intOf kk).toNat)
  case atStart => exact ⟨0, r1, none, 0, [], by omega, by omega, rfl, rfl, h1, OwT.nil_, by simp, Nw.nil_, hg1⟩
  case round =>
    clear h1 hC1 hg1
    obtain ⟨q, j, D, z, L, hj0, hqj, rfl, rfl, hX, oD, hS, hN, hG⟩ := hrel
    by_cases hpos : 0 < j
    · go_wp2_with fail
      refine (record_any hX (by omega)).mono ?_
      rintro e w4 ⟨s4, hs4, rfl, h4, hg4⟩
      have o4 := oD.kept hg4 (hN.ne hgw)
      have hB4 := h4.bel
      have hqb : q ≤ 1099511627776 := by omega
      have g4 := hG.trans hg4
      have hsz4 := g4.size
      go_wp2_with ((at_builtin; (refine wpl_push_str R _ _ _ ?_ rfl _ _ rfl D q z _ rfl o4 ?_ ?_ rfl hqb ?_); (focus (first | rfl | (simp; done))); (focus (repeat (first | exact Below.refl _ _ | assumption | refine bExt ?_ _ | refine bAlloc ?_ _ | refine bDrewN ?_ _ | refine bDrew ?_ | refine bSet ?_ (by first | exact Nat.le_refl _ | omega | (simp; done) | (simp; omega)) _))); (focus (repeat (first | exact Below.refl _ _ | assumption | refine bExt ?_ _ | refine bAlloc ?_ _ | refine bDrewN ?_ _ | refine bDrew ?_ | refine bSet ?_ (by first | exact Nat.le_refl _ | omega | (simp; done) | (simp; omega)) _))); intro D' z' y6 o6 hga hda))
      have hN' := hN.push hsz4 hda
      have h6 := h4.row hga (hN.ne' hgw) (fun b hb => (o4.blk hb).1)
      have g6 := grown_new g4 hga hN
      go_roundw
      case rel => exact ⟨q + 1, j - 1, D', z', L ++ [s4], by omega, by omega, rfl, rfl, h6.mono (by omega), o6, sizes_push hS hs4, hN', g6⟩
      case measure => simp [intOf]; omega
    · go_wp2_with fail
      refine (one_cx hX 24 (by omega) (by omega) (by omega)).mono ?_
      rintro e w4 ⟨b4, rfl, hC4, hg4⟩
      have h4 := (hX.grow hC4 hg4).mono (show k + 10 + 6 * q + 2 ≤ k + 100 by omega)
      have o4 := oD.kept hg4 (hN.ne hgw)
      have g4 := hG.trans hg4
      clear hX oD hG hg4 hC4
      cases b4
      · go_wp2
        go_ret
        exact ⟨D, q, z, L, rfl, by omega, hS, h4.mono (by omega), o4, hN, g4⟩
      · go_wp2_with fail
        refine (pick_cx h4 3 (by omega) (by omega) (by omega)).mono ?_
        rintro e w5 ⟨r5, ⟨hb0, hb1⟩, rfl, hC5, hg5⟩
        have h5 := (h4.grow hC5 hg5).mono (show k + 100 + 2 ≤ k + 1000 by omega)
        have o5 := o4.kept hg5 (hN.ne hgw)
        have g5 := g4.trans hg5
        clear h4 o4 g4 hC5 hg5
        go_wp2_with fail
        have hq0 : q ≤ 41 := by omega
        clear hqj hj0 hpos
        go_loopw [3] (fun v wr => ∃ (q : Nat) (D : Option Addr) (z : Nat) (L : List ByteArray), q ≤ 41 ∧ v = .slice D q z ∧ Cx R wr g A n c (k + 1000) l ∧ OwT R.heap.size wr D q z L ∧ (∀ s ∈ L, s.size ≤ 1000) ∧ Nw w D ∧ w.grownBy wr (some g)) (fun v _ => match v with | .slice _ q _ => 41 - q | _ => 0)
        case atStart => exact ⟨q, D, z, L, hq0, rfl, h5, o5, hS, hN, g5⟩
        case round =>
          clear h5 o5 g5 hS hN hq0
          obtain ⟨q, D, z, L, hq, rfl, h5, o5, hS, hN, g5⟩ := hrel
          by_cases hlt : (q : Int) < 39 + r5
          · have hB5 := h5.bel
            have hqb : q ≤ 1099511627776 := by omega
            have hsz5 := g5.size
            go_wp2_with ((at_builtin; (refine wpl_push_str R _ _ _ ?_ rfl _ _ rfl D q z _ rfl o5 ?_ ?_ rfl hqb ?_); (focus (first | rfl | (simp; done))); (focus (repeat (first | exact Below.refl _ _ | assumption | refine bExt ?_ _ | refine bAlloc ?_ _ | refine bDrewN ?_ _ | refine bDrew ?_ | refine bSet ?_ (by first | exact Nat.le_refl _ | omega | (simp; done) | (simp; omega)) _))); (focus (repeat (first | exact Below.refl _ _ | assumption | refine bExt ?_ _ | refine bAlloc ?_ _ | refine bDrewN ?_ _ | refine bDrew ?_ | refine bSet ?_ (by first | exact Nat.le_refl _ | omega | (simp; done) | (simp; omega)) _))); intro D' z' y6 o6 hga hda))
            have hN' := hN.push hsz5 hda
            have h6 := h5.row hga (hN.ne' hgw) (fun b hb => (o5.blk hb).1)
            have g6 := grown_new g5 hga hN
            go_roundw
            case rel => exact ⟨q + 1, D', z', _, by omega, rfl, h6, o6, sizes_push hS (by decide), hN', g6⟩
            case measure => simp; omega
          · go_wp2
            go_ret
            exact ⟨D, q, z, L, rfl, by omega, hS, h5, o5, hN, g5⟩
end Go.Proofs.YtpjaiihkgeabiaaDoor
