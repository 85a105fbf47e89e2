/- What the reference draws for the law on seals: keys, chains, two chains that share a beginning, two rows of records. Conditions: none. -/
import Derived.Test.YtpjaiihkgeabiaaDoorDraw8
import Derived.Test.YtpjaiihkgeabiaaDoorDraw10
import Derived.Test.YtpjaiihkgeabiaaDoorSealL
import Derived.Deep.DeepCutAuto
import Derived.Deep.CutBlock
import Derived.Deep.RegionHeld3
set_option linter.unusedVariables false
set_option linter.unusedSimpArgs false
set_option maxRecDepth 100000
namespace Go.Proofs.YtpjaiihkgeabiaaDoor
open Go.RowKit
/-- nil, or a block from its start, with room. -/
def Sl (A : Option Addr) (n c : Nat) : Prop := (A = none ∧ n = 0 ∧ c = 0 ∨ ∃ g, A = some ⟨g, 0, none⟩) ∧ n ≤ c ∧ c ≤ maxLen
theorem OwI.sl {base n c : Nat} {w : World} {A : Option Addr} {l : List Int} (h : OwI base w A n c l) : Sl A n c := by
  refine ⟨?_, Ow.cap_ h⟩
  rcases h.2 with ⟨h2, _⟩ | ⟨g, cap, cur, hv, _⟩
  · simp at h2; exact .inl h2
  · simp at hv; exact .inr ⟨g, hv.1⟩
theorem OwT.sl {base n c : Nat} {w : World} {A : Option Addr} {l : List ByteArray} (h : OwT base w A n c l) : Sl A n c := by
  refine ⟨?_, Ow.cap_ h⟩
  rcases h.2 with ⟨h2, _⟩ | ⟨g, cap, cur, hv, _⟩
  · simp at h2; exact .inl h2
  · simp at hv; exact .inr ⟨g, hv.1⟩
def RetKey (R w : World) (g : Nat) (A : Option Addr) (n c k : Nat) (l : List Int) (e : Ending) (w' : World) : Prop := ∃ r : Int, e = .returned (.int .i64 r) ∧ Cx R w' g A n c k l ∧ w.grownBy w' (some g)
set_option maxHeartbeats 1000000 in
theorem key_any {R w : World} {g n c k : Nat} {A : Option Addr} {l : List Int} (h : Cx R w g A n c k l) (hk : k ≤ 1000000) :
    Calls Tryd.prog 42 #[.pointer (some ⟨g, 0, none⟩)] w (RetKey R w g A n c (k + 10) l) := by
  go_enter Tryd.func42, Tryd.ntmps42
  go_wp2_with fail
  refine (pick_cx h 60000 (by omega) (by omega) (by omega)).mono ?_
  intro e w1 hp
  obtain ⟨v1, _, rfl, h1, g1⟩ := h.pick hp
  clear hp
  go_wp2_with fail
  refine (pick_cx h1 60000 (by omega) (by omega) (by omega)).mono ?_
  intro e w2 hp
  obtain ⟨v2, _, rfl, h2, g2⟩ := h1.pick hp
  clear hp
  go_wp2_with fail
  refine (pick_cx h2 60000 (by omega) (by omega) (by omega)).mono ?_
  intro e w3 hp
  obtain ⟨v3, _, rfl, h3, g3⟩ := h2.pick hp
  clear hp
  go_wp2_with fail
  refine (among_lit h3 (by omega) [1000000000, 1000000001, -1] 3 _ rfl rfl (by omega) (by omega) _ rfl 3).mono ?_
  rintro e w4 ⟨v4, _, rfl, h4, g4⟩
  go_wp2_with fail
  refine (among_lit h4 (by omega) [0, 1, v1, v2, v3, v4] 6 _ rfl rfl (by omega) (by omega) _ rfl 6).mono ?_
  rintro e w5 ⟨v5, _, rfl, h5, g5⟩
  go_wp2
  go_ret
  exact ⟨v5, rfl, h5.mono (by omega), (((g1.trans g2).trans g3).trans g4).trans g5⟩
def RetDJ (R w : World) (g : Nat) (A : Option Addr) (n c k : Nat) (l : List Int) (e : Ending) (w' : World) : Prop := ∃ (D : Option Addr) (q z : Nat) (L : List Int), e = .returned (.slice D q z) ∧ q ≤ 1000 ∧ Cx R w' g A n c k l ∧ OwI R.heap.size w' D q z L ∧ Nw w D ∧ w.grownBy w' (some g)
set_option maxHeartbeats 1000000 in
theorem chain_any {R w : World} {g n c k : Nat} {A : Option Addr} {l : List Int} (h : Cx R w g A n c k l) (hk : k ≤ 900000) :
    Calls Tryd.prog 43 #[.pointer (some ⟨g, 0, none⟩)] w (RetDJ R w g A n c (k + 20000) l) := by
  have hgw := h.cur.lt
  go_enter Tryd.func43, Tryd.ntmps43
  go_wp2_with fail
  refine (records_any h (by omega)).mono ?_
  rintro e w1 ⟨D, q, z, L, rfl, hq, hS, h1, o1, hN, hG⟩
  go_wp2_with fail
  refine (chChain_big _ _ _ _ L o1.rd (by omega) (fun s hs => Nat.le_trans (hS s hs) (by omega))).mono ?_
  rintro e w2 ⟨B, m, d, x2, rfl, hw2, o2⟩
  have hb2 := ext_below w1 x2
  rw [← hw2] at o2 hb2
  have hm2 : m = q := by rw [← o2.len, chainV, linksTo_len]; exact o1.len
  have h2 := h1.below hb2
  have g2 := hG.trans (grownBy_of_below (row := some g) hb2)
  have oB : OwI R.heap.size w2 B m d (chainV L) := o2.mono h1.bel.size
  have nB : Nw w B := fun b hb => Nat.le_trans hG.size (o2.blk hb).1
  have hm : m ≤ 1000 := by omega
  clear hw2 hb2 o1 o2 h1 hm2 hN hG hS hq
  generalize chainV L = M at *
  have hneB : blkOf B = none ∨ blkOf B ≠ some g := nB.ne hgw
  by_cases hm0 : 0 < m
  · have hm0I : (0 : Int) < m := by omega
    go_wp2_with fail
    refine (one_cx h2 8 (by omega) (by omega) (by omega)).mono ?_
    rintro e w3 ⟨b3, rfl, hC3, hg3⟩
    have h3 := h2.grow hC3 hg3
    have g3 := g2.trans hg3
    have o3 := oB.kept hg3 hneB
    clear hC3 hg3 oB h2 g2
    cases b3
    · go_wp2
      go_ret
      exact ⟨B, m, d, M, rfl, hm, h3.mono (by omega), o3, nB, g3⟩
    · go_wp2_with fail
      refine (pick_cx h3 m (by omega) (by omega) (by omega)).mono ?_
      intro e w4 hp
      obtain ⟨v4, ⟨ha0, ha1⟩, rfl, h4, gg4⟩ := h3.pick hp
      have g4 := g3.trans gg4
      have o4 := o3.kept gg4 hneB
      clear hp gg4 h3 g3 o3
      go_wp2_with fail
      refine (among_lit h4 (by omega) [1000003, -1] 2 _ rfl rfl (by omega) (by omega) _ rfl 2).mono ?_
      rintro e w5 ⟨v5, _, rfl, h5, gg5⟩
      have g5 := g4.trans gg5
      have o5 := o4.kept gg5 hneB
      clear gg5 h4 g4 o4
      go_wp2_with fail
      refine (among_lit h5 (by omega) [0, 5, 1000002, v5] 4 _ rfl rfl (by omega) (by omega) _ rfl 4).mono ?_
      rintro e w6 ⟨v6, _, rfl, h6, gg6⟩
      have g6 := g5.trans gg6
      have o6 := o5.kept gg6 hneB
      clear gg6 h5 g5 o5
      obtain ⟨i, rfl⟩ : ∃ i : Nat, v4 = i := ⟨v4.toNat, by omega⟩
      obtain ⟨bB, rfl, hbB1, hbB2⟩ := o6.form_ (by omega)
      have hc6 := o6.cell_ i (by omega)
      have hf6 := o6.frozen_ i
      have hst := o6.stored_ i v6
      have hiI : (i : Int) < m := by omega
      have hwb : w.heap.size ≤ bB := nB bB rfl
      have hnb : bB ≠ g := by omega
      go_wp2
      go_ret
      exact ⟨some ⟨bB, 0, none⟩, m, d, M.set i v6, rfl, hm, (h6.set hbB1 hnb i _).mono (by omega), hst.1, nB, grow_set g6 hwb i _⟩
  · go_wp2
    go_ret
    exact ⟨B, m, d, M, rfl, hm, h2.mono (by omega), oB, nB, g2⟩
/-- A key and a chain of the call's own. -/
def RetKC (w : World) (e : Ending) (w' : World) : Prop := ∃ (r : Int) (D : Option Addr) (q z : Nat) (L : List Int) (x : World), e = .returned (.tuple #[.int .i64 r, .slice D q z]) ∧ q ≤ 1000 ∧ w' = ext w x ∧ OwI w.heap.size (ext w x) D q z L
theorem drawSealOf_any (w : World) (A : Option Addr) (n c : Nat) (l : List Int) (hr : RdY w A n l) (hn : n ≤ 9223372036854775807) :
    Calls Tryd.prog 6 #[.slice A n c] w (RetKC w) := by
  have h := cx_new (c := c) hr hn
  go_enter Tryd.func6, Tryd.ntmps6
  go_wp2_with fail
  refine (key_any h (by omega)).mono ?_
  rintro e w1 ⟨r, rfl, h1, _⟩
  go_wp2_with fail
  refine (chain_any h1 (by omega)).mono ?_
  rintro e w2 ⟨D, q, z, L, rfl, hq, h2, o2, hN, hG⟩
  go_wp2
  go_ret2
  obtain ⟨x, rfl⟩ := ext_ex h2.bel
  exact ⟨r, D, q, z, L, x, rfl, hq, rfl, o2⟩
def RetKCS (w : World) (e : Ending) (w' : World) : Prop := ∃ (r : Int) (D : Option Addr) (q z : Nat) (L : List Int) (s : Int) (x : World), e = .returned (.tuple #[.int .i64 r, .slice D q z, .int .i64 s]) ∧ q ≤ 1000 ∧ w' = ext w x ∧ OwI w.heap.size (ext w x) D q z L
set_option maxHeartbeats 1000000 in
theorem drawSealHolds_any (w : World) (A : Option Addr) (n c : Nat) (l : List Int) (hr : RdY w A n l) (hn : n ≤ 9223372036854775807) :
    Calls Tryd.prog 10 #[.slice A n c] w (RetKCS w) := by
  have h := cx_new (c := c) hr hn
  have hg : w.heap.size < (w.alloc (.cells #[.slice A n c, .int .i64 0, .int .u64 0] 76)).heap.size := by simp
  go_enter Tryd.func10, Tryd.ntmps10
  go_wp2_with fail
  refine (key_any h (by omega)).mono ?_
  rintro e w1 ⟨r, rfl, h1, g1⟩
  have hg1 := h1.cur.lt
  go_wp2_with fail
  refine (chain_any h1 (by omega)).mono ?_
  rintro e w2 ⟨D, q, z, L, rfl, hq, h2, o2, hN, hG⟩
  have hne := hN.ne hg1
  clear hN hG g1 h1 h
  go_wp2_with fail
  refine (among_lit h2 (by omega) [0, 5, 1000002, 1000003, -1] 5 _ rfl rfl (by omega) (by omega) _ rfl 5).mono ?_
  rintro e w3 ⟨v3, _, rfl, h3, gg3⟩
  have o3 := o2.kept gg3 hne
  have hqb : q ≤ 1099511627776 := by omega
  clear gg3 h2 o2
  have e1 := chKey_any r w3
  have e2 := chGood_any w3 D q z L o3.rd hqb
  generalize hk1 : inB r 0 1000000000 = b1 at *
  generalize hk2 : chainB L = b2 at *
  have Hk1 := Lib.hid hk1
  have Hk2 := Lib.hid hk2
  clear hk1 hk2
  cases b1
  · go_wp2_with ((go_at_call 47; ((with_reducible refine (e1).mono ?_); rintro e w' ⟨rfl, rfl⟩)))
    go_ret3
    obtain ⟨x, rfl⟩ := ext_ex h3.bel
    exact ⟨r, D, q, z, L, v3, x, rfl, hq, rfl, o3⟩
  · cases b2
    · go_wp2_with (first | (go_at_call 47; ((with_reducible refine (e1).mono ?_); rintro e w' ⟨rfl, rfl⟩)) | (go_at_call 48; ((with_reducible refine (e2).mono ?_); rintro e w' ⟨rfl, rfl⟩)))
      go_ret3
      obtain ⟨x, rfl⟩ := ext_ex h3.bel
      exact ⟨r, D, q, z, L, v3, x, rfl, hq, rfl, o3⟩
    · obtain ⟨⟨hr0, hr1⟩, hL0, hL1⟩ := sealOk_of Hk1.out Hk2.out
      have hq40 : q ≤ 40 := by rw [← o3.len]; exact hL0
      go_wp2_with (first | (go_at_call 47; ((with_reducible refine (e1).mono ?_); rintro e w' ⟨rfl, rfl⟩)) | (go_at_call 48; ((with_reducible refine (e2).mono ?_); rintro e w' ⟨rfl, rfl⟩)))
      clear e1 e2 Hk1 Hk2
      refine (one_cx h3 3 (by omega) (by omega) (by omega)).mono ?_
      rintro e w4 ⟨b4, rfl, hC4, hg4⟩
      have h4 := h3.grow hC4 hg4
      have o4 := o3.kept hg4 hne
      clear hC4 hg4 h3 o3
      cases b4
      · go_wp2_with ((go_at_call 49; ((with_reducible refine (chSeal_any _ _ _ _ _ _ o4.rd hq40 hr0 hr1 hL1).mono ?_); rintro e w' ⟨rfl, y4, rfl⟩)))
        go_ret3
        have h5 := h4.below (ext_below w4 y4)
        have o5 := o4.below (ext_below w4 y4)
        obtain ⟨x, hx⟩ := ext_ex h5.bel
        rw [hx] at o5
        rw [hx]
        exact ⟨r, D, q, z, L, _, x, rfl, hq, rfl, o5⟩
      · go_wp2
        go_ret3
        obtain ⟨x, rfl⟩ := ext_ex h4.bel
        exact ⟨r, D, q, z, L, v3, x, rfl, hq, rfl, o4⟩
def RetCR (w : World) (e : Ending) (w' : World) : Prop := ∃ (D : Option Addr) (q z : Nat) (L : List Int) (s : ByteArray) (x : World), e = .returned (.tuple #[.slice D q z, .string s]) ∧ q ≤ 1000 ∧ s.size ≤ 1000 ∧ w' = ext w x ∧ OwI w.heap.size (ext w x) D q z L
theorem drawExtendChain_any (w : World) (A : Option Addr) (n c : Nat) (l : List Int) (hr : RdY w A n l) (hn : n ≤ 9223372036854775807) :
    Calls Tryd.prog 21 #[.slice A n c] w (RetCR w) := by
  have h := cx_new (c := c) hr hn
  have hg : w.heap.size < (w.alloc (.cells #[.slice A n c, .int .i64 0, .int .u64 0] 76)).heap.size := by simp
  go_enter Tryd.func21, Tryd.ntmps21
  go_wp2_with fail
  refine (chain_any h (by omega)).mono ?_
  rintro e w1 ⟨D, q, z, L, rfl, hq, h1, o1, hN, hG⟩
  go_wp2_with fail
  refine (record_any h1 (by omega)).mono ?_
  rintro e w2 ⟨s, hs, rfl, h2, g2⟩
  have o2 := o1.kept g2 (hN.ne hg)
  go_wp2
  go_ret2
  obtain ⟨x, rfl⟩ := ext_ex h2.bel
  exact ⟨D, q, z, L, s, x, rfl, hq, hs, rfl, o2⟩
def RetIR (w : World) (e : Ending) (w' : World) : Prop := ∃ (r : Int) (s : ByteArray) (x : World), e = .returned (.tuple #[.int .i64 r, .string s]) ∧ s.size ≤ 1000 ∧ w' = ext w x
theorem drawLinkOf_any (w : World) (A : Option Addr) (n c : Nat) (l : List Int) (hr : RdY w A n l) (hn : n ≤ 9223372036854775807) :
    Calls Tryd.prog 24 #[.slice A n c] w (RetIR w) := by
  have h := cx_new (c := c) hr hn
  go_enter Tryd.func24, Tryd.ntmps24
  go_wp2_with fail
  refine (pick_cx h 60000 (by omega) (by omega) (by omega)).mono ?_
  intro e w1 hp
  obtain ⟨v1, _, rfl, h1, g1⟩ := h.pick hp
  clear hp
  go_wp2_with fail
  refine (among_lit h1 (by omega) [0, 1, v1, 1000002, 1000003, -1] 6 _ rfl rfl (by omega) (by omega) _ rfl 6).mono ?_
  rintro e w2 ⟨v2, _, rfl, h2, g2⟩
  go_wp2_with fail
  refine (record_any h2 (by omega)).mono ?_
  rintro e w3 ⟨s, hs, rfl, h3, g3⟩
  go_wp2
  go_ret2
  obtain ⟨x, rfl⟩ := ext_ex h3.bel
  exact ⟨v2, s, x, rfl, hs, rfl⟩
def RetTT (w : World) (e : Ending) (w' : World) : Prop := ∃ (A : Option Addr) (n c : Nat) (L : List ByteArray) (B : Option Addr) (m d : Nat) (M : List ByteArray) (x : World), e = .returned (.tuple #[.slice A n c, .slice B m d]) ∧ (n ≤ 1000 ∧ m ≤ 1000) ∧ (∀ s ∈ L, s.size ≤ 1000) ∧ (∀ s ∈ M, s.size ≤ 1000) ∧ w' = ext w x ∧ OwT w.heap.size (ext w x) A n c L ∧ OwT w.heap.size (ext w x) B m d M
theorem drawJoinChains_any (w : World) (A : Option Addr) (n c : Nat) (l : List Int) (hr : RdY w A n l) (hn : n ≤ 9223372036854775807) :
    Calls Tryd.prog 16 #[.slice A n c] w (RetTT w) := by
  have h := cx_new (c := c) hr hn
  have hg : w.heap.size < (w.alloc (.cells #[.slice A n c, .int .i64 0, .int .u64 0] 76)).heap.size := by simp
  go_enter Tryd.func16, Tryd.ntmps16
  go_wp2_with fail
  refine (records_any h (by omega)).mono ?_
  rintro e w1 ⟨D, q, z, L, rfl, hq, hS, h1, o1, hN, hG⟩
  go_wp2_with fail
  refine (records_any h1 (by omega)).mono ?_
  rintro e w2 ⟨E, p, y, M, rfl, hp, hT, h2, o2, hN2, g2⟩
  have o3 := o1.kept g2 (hN.ne hg)
  go_wp2
  go_ret2
  obtain ⟨x, rfl⟩ := ext_ex h2.bel
  exact ⟨D, q, z, L, E, p, y, M, x, rfl, ⟨hq, hp⟩, hS, hT, rfl, o3, o2⟩
/-- Two chains to read. -/
def RetBr (w : World) (e : Ending) (w' : World) : Prop := ∃ (A : Option Addr) (n c : Nat) (L : List Int) (B : Option Addr) (m d : Nat) (M : List Int) (x : World), e = .returned (.tuple #[.slice A n c, .slice B m d]) ∧ (n ≤ 1000 ∧ m ≤ 1000) ∧ (Sl A n c ∧ Sl B m d) ∧ w' = ext w x ∧ RdI (ext w x) A n L ∧ RdI (ext w x) B m M
set_option maxHeartbeats 2000000 in
theorem drawBranchOf_any (w : World) (A : Option Addr) (n c : Nat) (l : List Int) (hr : RdY w A n l) (hn : n ≤ 9223372036854775807) :
    Calls Tryd.prog 12 #[.slice A n c] w (RetBr w) := by
  have h := cx_new (c := c) hr hn
  have hg : w.heap.size < (w.alloc (.cells #[.slice A n c, .int .i64 0, .int .u64 0] 76)).heap.size := by simp
  go_enter Tryd.func12, Tryd.ntmps12
  go_wp2_with fail
  refine (chain_any h (by omega)).mono ?_
  rintro e w1 ⟨D, q, z, L, rfl, hq, h1, o1, hN, hG⟩
  have hne := hN.ne hg
  clear hN hG h hg
  go_wp2_with fail
  refine (one_cx h1 4 (by omega) (by omega) (by omega)).mono ?_
  rintro e w2 ⟨b2, rfl, hC2, hg2⟩
  have h2 := h1.grow hC2 hg2
  have o2 := o1.kept hg2 hne
  have hg1 := h2.cur.lt
  clear hC2 hg2 h1 o1
  cases b2
  · go_wp2_with fail
    refine (l1Own_any _ _ _ _ _ o2.rd (by omega)).mono ?_
    rintro e w3 ⟨B, m, d, x3, rfl, hw3, o3⟩
    have hb3 := ext_below w2 x3
    rw [← hw3] at o3 hb3
    have hm : m ≤ 1000 := by rw [← o3.len, o2.len]; exact hq
    have hneB : blkOf B = none ∨ blkOf B ≠ some w.heap.size := Nw.ne (w := w2) (fun b hb => (o3.blk hb).1) hg1
    have h3 := h2.below hb3
    have oD3 := o2.below hb3
    have hnDB : blkOf D = none ∨ blkOf D ≠ blkOf B := ne_before o2 o3
    have o3' : OwI w.heap.size w3 B m d L := o3.mono h2.bel.size
    clear hw3 hb3 o3 o2 h2
    go_wp2_with fail
    refine (pick_cx h3 3 (by omega) (by omega) (by omega)).mono ?_
    intro e w4 hp
    obtain ⟨v4, ⟨ha0, ha1⟩, rfl, h4, gg4⟩ := h3.pick hp
    have oD4 := oD3.kept gg4 hne
    have oB4 := o3'.kept gg4 hneB
    clear hp gg4 h3 oD3 o3'
    by_cases e0 : v4 = 0
    · subst e0
      go_wp2_with fail
      refine (pick_cx h4 (m + 1) (by omega) (by omega) (by omega)).mono ?_
      intro e w5 hp
      obtain ⟨v5, ⟨hb0, hb1⟩, rfl, h5, gg5⟩ := h4.pick hp
      have oD5 := oD4.kept gg5 hne
      have oB5 := oB4.kept gg5 hneB
      have sB := oB5.sl
      clear hp gg5 h4 oD4 oB4
      obtain ⟨i, rfl⟩ : ∃ i : Nat, v5 = i := ⟨v5.toNat, by omega⟩
      have him : i ≤ m := by omega
      have hrd := oB5.rd.take_ i him
      rcases sB.1 with ⟨rfl, rfl, rfl⟩ | ⟨gB, rfl⟩
      · obtain rfl : i = 0 := by omega
        go_wp2
        go_ret2
        obtain ⟨x, rfl⟩ := ext_ex h5.bel
        exact ⟨D, q, z, L, none, 0, 0, _, x, rfl, ⟨hq, by omega⟩, ⟨oD5.sl, ⟨.inl ⟨rfl, rfl, rfl⟩, Nat.le_refl _, by simp [maxLen]⟩⟩, rfl, oD5.rd, hrd⟩
      · have hcd := sB.2.1
        have hid : (i : Int) ≤ d := by omega
        have hid2 : i ≤ d := by omega
        go_wp2
        go_ret2
        obtain ⟨x, rfl⟩ := ext_ex h5.bel
        exact ⟨D, q, z, L, some ⟨gB, 0, none⟩, i, d, _, x, by first | rfl | simp, ⟨hq, by omega⟩, ⟨oD5.sl, ⟨.inr ⟨gB, rfl⟩, hid2, sB.2.2⟩⟩, rfl, oD5.rd, hrd⟩
    · by_cases e1 : v4 = 1
      · subst e1
        by_cases hm0 : (0 : Int) < m
        · go_wp2_with fail
          refine (pick_cx h4 m (by omega) (by omega) (by omega)).mono ?_
          intro e w5 hp
          obtain ⟨v5, ⟨hb0, hb1⟩, rfl, h5, gg5⟩ := h4.pick hp
          have oD5 := oD4.kept gg5 hne
          have oB5 := oB4.kept gg5 hneB
          clear hp gg5 h4 oD4 oB4
          obtain ⟨i, rfl⟩ : ∃ i : Nat, v5 = i := ⟨v5.toNat, by omega⟩
          obtain ⟨bB, rfl, hbB1, hbB2⟩ := oB5.form_ (by omega)
          have hc6 := oB5.cell_ i (by omega)
          have hf6 := oB5.frozen_ i
          have hst := oB5.stored_ i 3
          have hiI : (i : Int) < m := by omega
          have h6 := h5.set (b := bB) hbB1 (by intro hx; rcases hneB with hy | hy; exact absurd hy (by simp [blkOf]); exact hy (by rw [← hx]; rfl)) i (.int .i64 3)
          have oD6 := oD5.kept hst.2 hnDB
          go_wp2
          go_ret2
          obtain ⟨x, hx⟩ := ext_ex h6.bel
          have o6 := hst.1
          rw [hx] at o6 oD6
          rw [hx]
          exact ⟨D, q, z, L, some ⟨bB, 0, none⟩, m, d, _, x, rfl, ⟨hq, by omega⟩, ⟨oD6.sl, o6.sl⟩, rfl, oD6.rd, o6.rd⟩
        · go_wp2
          go_ret2
          obtain ⟨x, rfl⟩ := ext_ex h4.bel
          exact ⟨D, q, z, L, B, m, d, L, x, rfl, ⟨hq, by omega⟩, ⟨oD4.sl, oB4.sl⟩, rfl, oD4.rd, oB4.rd⟩
      · go_wp2
        go_ret2
        obtain ⟨x, rfl⟩ := ext_ex h4.bel
        exact ⟨D, q, z, L, B, m, d, L, x, rfl, ⟨hq, by omega⟩, ⟨oD4.sl, oB4.sl⟩, rfl, oD4.rd, oB4.rd⟩
  · go_wp2_with fail
    refine (chain_any h2 (by omega)).mono ?_
    rintro e w3 ⟨E, p, y, M, rfl, hp, h3, o3, hN3, g3⟩
    have oD3 := o2.kept g3 hne
    go_wp2
    go_ret2
    obtain ⟨x, rfl⟩ := ext_ex h3.bel
    exact ⟨D, q, z, L, E, p, y, M, x, rfl, ⟨hq, hp⟩, ⟨oD3.sl, o3.sl⟩, rfl, oD3.rd, o3.rd⟩
end Go.Proofs.YtpjaiihkgeabiaaDoor
