/- Contracts of tiRun (the reference) and timesOfDay (the program): both give the plain timing of a day. Conditions: valid slots and day, a delay from 0 to 3600. -/
import Derived.Test.YtpjaiihkgeabiaaDoorRunP
import Derived.Deep.DeepCutAuto
set_option linter.unusedVariables false
set_option linter.unusedSimpArgs false
set_option maxRecDepth 100000
namespace Go.Proofs.YtpjaiihkgeabiaaDoor
open Go.RowKit
def Dj (A B : Option Addr) : Prop := ∀ g, blkOf A = some g → blkOf B ≠ some g
theorem Dj.symm {A B : Option Addr} (h : Dj A B) : Dj B A := fun g hb ha => h g ha hb
theorem Dj.nil_ {B : Option Addr} : Dj none B := fun g h => by cases h
theorem Dj.ne {A B : Option Addr} (h : Dj A B) : blkOf A = none ∨ blkOf A ≠ blkOf B := by
  cases hA : blkOf A with
  | none => exact .inl rfl
  | some g => exact .inr (fun e => h g hA (by rw [← e]))
theorem Dj.push {A A' B : Option Addr} {e s base n c : Nat} {xs : List Value} {W : World} (h : Dj A B) (hB : Ow e s base W B n c xs) (hd : blkOf A' = blkOf A ∨ ∃ g, blkOf A' = some g ∧ W.heap.size < g) : Dj A' B := by
  intro g hA hBg
  rcases hd with hd | ⟨g', hg', hlt⟩
  · exact h g (by rw [← hd]; exact hA) hBg
  · rw [hg'] at hA
    cases hA
    have := (hB.blk hBg).2
    omega
/-- What the run of a day ends with: the starts, the warm-ups, the end. -/
def RetRun (w : World) (S W : List Int) (T : Int) (e : Ending) (w' : World) : Prop := ∃ A n c B m d x, e = .returned (.tuple #[.slice A n c, .slice B m d, .int .i64 T]) ∧ w' = ext w x ∧ OwI w.heap.size (ext w x) A n c S ∧ OwI w.heap.size (ext w x) B m d W
theorem RetRun.mk_ {w W' : World} {base : Nat} {A B : Option Addr} {n c m d : Nat} {S W : List Int} {T : Int} (ho : OwI base W' A n c S) (ho2 : OwI base W' B m d W) (hbase : w.heap.size ≤ base) (hb : Below w.heap.size w W') : RetRun w S W T (.returned (.tuple #[.slice A n c, .slice B m d, .int .i64 T])) W' := by
  obtain ⟨x, rfl⟩ := ext_ex hb
  exact ⟨A, n, c, B, m, d, x, rfl, rfl, ho.mono hbase, ho2.mono hbase⟩
def runS (l : List (Int × Int)) (a b c g i delay : Int) : List Int := outS l a c g i delay (groupsOf l.length b) (groupsOf l.length b).length
def runW (l : List (Int × Int)) (a b c g i delay : Int) : List Int := outW l a c g i delay (groupsOf l.length b) (groupsOf l.length b).length
def runT (l : List (Int × Int)) (a b c g i delay : Int) : Int := outT l a c g i delay (groupsOf l.length b) (groupsOf l.length b).length
set_option maxHeartbeats 2000000 in
theorem tiRun_any (w : World) (L : Option Addr) (n cl : Nat) (l : List (Int × Int)) (a b c gap i delay : Int) (hl : RdS w L n l) (hsl : slotsB l = true) (hday : dayB a b c gap = true) (hd0 : 0 ≤ delay) (hd1 : delay ≤ 3600) :
    Calls Tryd.prog 78 #[.slice L n cl, .agg #[.int .i64 a, .int .i64 b, .int .i64 c, .int .i64 gap], .int .i64 i, .int .i64 delay] w (RetRun w (runS l a b c gap i delay) (runW l a b c gap i delay) (runT l a b c gap i delay)) := by
  have Hl := Lib.hid hl.len
  obtain ⟨_, hn1, hn40⟩ := slotsB_of hsl
  have hday' := hday
  simp only [dayB, Bool.and_eq_true] at hday'
  obtain ⟨⟨⟨ka, kb⟩, kc⟩, kg⟩ := hday'
  replace ka := inB_iff.1 ka
  replace kb := inB_iff.1 kb
  replace kc := inB_iff.1 kc
  replace kg := inB_iff.1 kg
  have ht : Timed l gap delay := ⟨fun k hk => by have := slotsB_music hsl k hk; omega, kg.1, kg.2, hd0, hd1⟩
  have hgs := Lib.hid (groups_all l.length b (by omega) kb.1)
  have hgp := groups_pos l.length b (by omega) kb.1
  have hgl := groupsOf_len l.length b (by omega) kb.1
  rw [Hl.out] at hn1 hn40
  unfold runS runW runT
  rw [Hl.out] at hgs hgp hgl ⊢
  generalize hG : groupsOf n b = gs at hgs hgp hgl ⊢
  have HG := Lib.hid hG
  clear hG
  go_enter Tryd.func78, Tryd.ntmps78
  go_wp2_with (go_at_call 107; ((with_reducible refine (tiGroups_any _ _ _ (by omega) (by omega) kb.1 (by omega)).mono ?_); rintro e w' ⟨G, gn, gc, xg, rfl, rfl, og⟩; rw [HG.out] at og; obtain rfl : gn = gs.length := og.len.symm))
  have hrG := og.rd
  have hlR : RdS (ext (w.alloc (.cells #[.int .i64 a, .int .i64 b, .int .i64 c, .int .i64 gap] 53)) xg) L n l := hl.below (by repeat (first | exact Below.refl _ _ | assumption | refine bExt ?_ _ | refine bAlloc ?_ _ | refine bDrewN ?_ _ | refine bDrew ?_ | refine bSet ?_ (by first | exact Nat.le_refl _ | omega | (simp; done) | (simp; omega)) _))
  have hwz : w.heap.size < (ext (w.alloc (.cells #[.int .i64 a, .int .i64 b, .int .i64 c, .int .i64 gap] 53)) xg).heap.size := by have := ext_le (w.alloc (.cells #[.int .i64 a, .int .i64 b, .int .i64 c, .int .i64 gap] 53)) xg; simp at this; omega
  have hb2 : (ext (w.alloc (.cells #[.int .i64 a, .int .i64 b, .int .i64 c, .int .i64 gap] 53)) xg).cell? ⟨w.heap.size, 2, none⟩ = some (.int .i64 c) := by simp [go_sem]
  have hb3 : (ext (w.alloc (.cells #[.int .i64 a, .int .i64 b, .int .i64 c, .int .i64 gap] 53)) xg).cell? ⟨w.heap.size, 3, none⟩ = some (.int .i64 gap) := by simp [go_sem]
  have HbR0 : Below w.heap.size w (ext (w.alloc (.cells #[.int .i64 a, .int .i64 b, .int .i64 c, .int .i64 gap] 53)) xg) := by repeat (first | exact Below.refl _ _ | assumption | refine bExt ?_ _ | refine bAlloc ?_ _ | refine bDrewN ?_ _ | refine bDrew ?_ | refine bSet ?_ (by first | exact Nat.le_refl _ | omega | (simp; done) | (simp; omega)) _)
  have HbR := Lib.hid HbR0
  clear HbR0
  generalize (ext (w.alloc (.cells #[.int .i64 a, .int .i64 b, .int .i64 c, .int .i64 gap] 53)) xg) = R at hrG hlR hwz hb2 hb3 HbR ⊢
  clear og
  go_loopw [11, 12, 13, 14, 16, 25] (fun v11 v12 t13 k14 _ i25 wr => ∃ (g : Nat) (A : Option Addr) (ca : Nat) (B : Option Addr) (cb : Nat) (x : World), g ≤ gs.length ∧ i25 = .int .i64 g ∧ v11 = .slice A (outK gs g) ca ∧ v12 = .slice B g cb ∧ t13 = .int .i64 (outT l a c gap i delay gs g) ∧ k14 = .int .i64 (outK gs g : Nat) ∧ wr = ext R x ∧ OwI R.heap.size (ext R x) A (outK gs g) ca (outS l a c gap i delay gs g) ∧ OwI R.heap.size (ext R x) B g cb (outW l a c gap i delay gs g) ∧ Dj A B) (fun _ _ _ _ _ i25 _ => gs.length - (intOf i25).toNat)
  case atStart => exact ⟨0, none, 0, none, 0, _, by omega, rfl, rfl, rfl, rfl, rfl, ext_self R, OwI.nil_, OwI.nil_, Dj.nil_⟩
  case round =>
    obtain ⟨g, A, ca, B, cb, x, hg, rfl, rfl, rfl, rfl, rfl, rfl, oA, oB, hdj⟩ := hrel
    by_cases hlt : g < gs.length
    · have hKs := outK_succ gs g hlt
      have hKm := outK_mono gs (g + 1) gs.length (by omega)
      have hgt1 : outK gs gs.length ≤ n := by have := hgs.out; omega
      have hsz := hgp g hlt
      have HTs : Hid (outT l a c gap i delay gs (g + 1) = innT l gap i delay (outK gs g) (outT l a c gap i delay gs g + c) (gs[g]?.getD 0).toNat) := rfl
      have HSs : Hid (outS l a c gap i delay gs (g + 1) = outS l a c gap i delay gs g ++ innS l gap i delay (outK gs g) (outT l a c gap i delay gs g + c) (gs[g]?.getD 0).toNat) := rfl
      have HWs := Lib.hid (outW_succ l a c gap i delay gs g)
      have hTb := outT_bd (i := i) (g := g) (gs := gs) ht kc.1 kc.2 ka.1 ka.2 hg (by rw [Hl.out]; omega)
      obtain ⟨b1, o1, rfl, hb1, hc1⟩ := hrG.open_ (by omega)
      have hcg := hc1 g hlt
      clear hc1
      generalize hsv : gs[g]?.getD 0 = s at hsz hKs hcg HTs HSs
      simp only [List.getD_eq_getElem?_getD, hsv] at hcg
      clear hsv
      generalize outT l a c gap i delay gs g = T at *
      generalize outS l a c gap i delay gs g = S at *
      generalize outW l a c gap i delay gs g = WW at *
      generalize hK1 : outK gs (g + 1) = K1 at *
      have HK1 := Lib.hid hK1
      clear hK1
      generalize outK gs g = K at *
      generalize outK gs gs.length = KN at *
      have hgb : g ≤ 1099511627776 := by omega
      have hKs1 : K1 ≤ K + s.toNat := by omega
      have hKs2 : K + s.toNat ≤ K1 := by omega
      clear hKs
      go_wp2_with (first | (at_builtin; (refine wpl_push_int R _ _ _ ?_ rfl _ _ rfl B g cb _ rfl oB ?_ ?_ rfl hgb ?_); (focus (first | rfl | (simp; done))); (focus (repeat (first | exact Below.refl _ _ | assumption | refine bExt ?_ _ | refine bAlloc ?_ _ | refine bDrewN ?_ _ | refine bDrew ?_ | refine bSet ?_ (by first | exact Nat.le_refl _ | omega | (simp; done) | (simp; omega)) _))); (focus (repeat (first | exact Below.refl _ _ | assumption | refine bExt ?_ _ | refine bAlloc ?_ _ | refine bDrewN ?_ _ | refine bDrew ?_ | refine bSet ?_ (by first | exact Nat.le_refl _ | omega | (simp; done) | (simp; omega)) _))); intro B' cb' y oB' hgr hdd))
      have oA' := oA.kept hgr hdj.ne
      have hdj' : Dj A B' := (Dj.push hdj.symm oA hdd).symm
      clear hgr hdd oA oB hdj
      go_loopw [11, 13, 14, 16] (fun v11 t13 k14 n16 wr => ∃ (j q : Nat) (A : Option Addr) (ca : Nat) (x : World), j ≤ s.toNat ∧ q ≤ K + j ∧ K + j ≤ q ∧ n16 = .int .i64 (s - j) ∧ v11 = .slice A q ca ∧ t13 = .int .i64 (innT l gap i delay K (T + c) j) ∧ k14 = .int .i64 (q : Nat) ∧ wr = ext R x ∧ OwI R.heap.size (ext R x) A q ca (S ++ innS l gap i delay K (T + c) j) ∧ OwI R.heap.size (ext R x) B' (g + 1) cb' (WW ++ [T]) ∧ Dj A B') (fun _ _ _ n16 _ => (intOf n16).toNat)
      case atStart => exact ⟨0, K, A, ca, y, by omega, by omega, by omega, by go_num, rfl, rfl, rfl, rfl, by simpa [innS] using oA', oB', hdj'⟩
      case round =>
        clear oA' oB' hdj'
        obtain ⟨j, q, A, ca, x, hj, hq1, hq2, rfl, rfl, rfl, rfl, rfl, oA, oB, hdj⟩ := hrel
        by_cases hjs : (j : Int) < s
        · have hqn : q < n := by omega
          obtain ⟨b2, o2, rfl, hb2, hm0, hm1⟩ := hlR.at_ q hqn
          have hmu := ht.music q (by rw [Hl.out]; exact hqn)
          have htb := innT_bd (i := i) (k0 := K) (t0 := T + c) (j := j) ht (by rw [Hl.out]; omega)
          have HSj := Lib.hid (innS_succ l gap i delay K (T + c) j)
          have HTj : Hid (innT l gap i delay K (T + c) (j + 1) = nxtT l gap i delay q (innT l gap i delay K (T + c) j)) := by
            have : K + j = q := by omega
            show nxtT l gap i delay (K + j) _ = _
            rw [this]
          unfold nxtT at HTj
          generalize (l[q]?.getD (0, 0)).2 = mu at *
          generalize innT l gap i delay K (T + c) j = tt at *
          have hqb : q ≤ 1099511627776 := by omega
          have hw1 : IntKind.i64.wrap (mu + gap) = mu + gap := IntWalk.i64_in _ (by omega)
          have hw2 : IntKind.i64.wrap (tt + (mu + gap)) = tt + (mu + gap) := IntWalk.i64_in _ (by omega)
          by_cases hi : (q : Int) = i
          · have HI := Lib.hid hi
            have hib : ((q : Int) == i) = true := by simpa using hi
            have hw3 : IntKind.i64.wrap (tt + (mu + gap) + delay) = tt + (mu + gap) + delay := IntWalk.i64_in _ (by omega)
            clear hi
            go_wp2_with (first | (at_builtin; (refine wpl_push_int R _ _ _ ?_ rfl _ _ rfl A q ca _ rfl oA ?_ ?_ rfl hqb ?_); (focus (first | rfl | (simp; done))); (focus (repeat (first | exact Below.refl _ _ | assumption | refine bExt ?_ _ | refine bAlloc ?_ _ | refine bDrewN ?_ _ | refine bDrew ?_ | refine bSet ?_ (by first | exact Nat.le_refl _ | omega | (simp; done) | (simp; omega)) _))); (focus (repeat (first | exact Below.refl _ _ | assumption | refine bExt ?_ _ | refine bAlloc ?_ _ | refine bDrewN ?_ _ | refine bDrew ?_ | refine bSet ?_ (by first | exact Nat.le_refl _ | omega | (simp; done) | (simp; omega)) _))); intro A' ca' y oA' hgr hdd))
            go_quiet (fail)
            clear hw1 hw2 hw3
            go_wp2
            have oB' := oB.kept hgr hdj.symm.ne
            have hdj' : Dj A' B' := Dj.push hdj oB hdd
            obtain ⟨z, hz⟩ := ext_ex (bDrewN (ext_below R y) nq)
            have oA2 := oA'.below (bDrewN (Below.refl _ _) nq)
            have oB2 := oB'.below (bDrewN (Below.refl _ _) nq)
            rw [hz] at oA2 oB2
            go_roundw
            case rel => exact ⟨j + 1, q + 1, A', ca', z, by omega, by omega, by omega, by go_num, rfl, by rw [HTj.out, if_pos HI.out], by go_num, hz, by rw [HSj.out, ← List.append_assoc]; exact oA2, oB2, hdj'⟩
            case measure => simp [intOf]; omega
          · have hib : ((q : Int) == i) = false := by simpa using hi
            have HI := Lib.hid hi
            clear hi
            go_wp2_with (first | (at_builtin; (refine wpl_push_int R _ _ _ ?_ rfl _ _ rfl A q ca _ rfl oA ?_ ?_ rfl hqb ?_); (focus (first | rfl | (simp; done))); (focus (repeat (first | exact Below.refl _ _ | assumption | refine bExt ?_ _ | refine bAlloc ?_ _ | refine bDrewN ?_ _ | refine bDrew ?_ | refine bSet ?_ (by first | exact Nat.le_refl _ | omega | (simp; done) | (simp; omega)) _))); (focus (repeat (first | exact Below.refl _ _ | assumption | refine bExt ?_ _ | refine bAlloc ?_ _ | refine bDrewN ?_ _ | refine bDrew ?_ | refine bSet ?_ (by first | exact Nat.le_refl _ | omega | (simp; done) | (simp; omega)) _))); intro A' ca' y oA' hgr hdd))
            go_quiet (fail)
            clear hw1 hw2
            go_wp2
            have oB' := oB.kept hgr hdj.symm.ne
            have hdj' : Dj A' B' := Dj.push hdj oB hdd
            obtain ⟨z, hz⟩ := ext_ex (bDrewN (ext_below R y) nq)
            have oA2 := oA'.below (bDrewN (Below.refl _ _) nq)
            have oB2 := oB'.below (bDrewN (Below.refl _ _) nq)
            rw [hz] at oA2 oB2
            go_roundw
            case rel => exact ⟨j + 1, q + 1, A', ca', z, by omega, by omega, by omega, by go_num, rfl, by rw [HTj.out, if_neg HI.out, Int.add_zero], by go_num, hz, by rw [HSj.out, ← List.append_assoc]; exact oA2, oB2, hdj'⟩
            case measure => simp [intOf]; omega
        · obtain rfl : j = s.toNat := by omega
          obtain rfl : q = K1 := by omega
          go_wp2
          go_roundw
          case rel => exact ⟨g + 1, A, ca, B', cb', x, by omega, by go_num, by rw [HK1.out], rfl, by rw [HTs.out], by rw [HK1.out], rfl, by rw [HSs.out, HK1.out]; exact oA, by rw [HWs.out]; exact oB, hdj⟩
          case measure => simp [intOf]; omega
    · obtain rfl : g = gs.length := by omega
      go_wp2
      go_ret3
      exact RetRun.mk_ oA oB HbR.out.size (HbR.out.trans ((ext_below R x).mono HbR.out.size))
theorem two_empty (R : World) (g1 g2 : Nat) (h1 : g1 = R.heap.size) (h2 : g2 = R.heap.size + 1) :
    ∃ x, ((R.alloc (.cells #[] 3)).alloc (.cells #[] 3)).drew = ext R x ∧ OwI R.heap.size (ext R x) (some ⟨g1, 0, none⟩) 0 0 [] ∧ OwI R.heap.size (ext R x) (some ⟨g2, 0, none⟩) 0 0 [] ∧ Dj (some ⟨g1, 0, none⟩) (some ⟨g2, 0, none⟩) := by
  subst h1
  have hb : Below R.heap.size R ((R.alloc (.cells #[] 3)).alloc (.cells #[] 3)).drew := by repeat (first | exact Below.refl _ _ | assumption | refine bExt ?_ _ | refine bAlloc ?_ _ | refine bDrewN ?_ _ | refine bDrew ?_ | refine bSet ?_ (by first | exact Nat.le_refl _ | omega | (simp; done) | (simp; omega)) _)
  obtain ⟨x, hx⟩ := ext_ex hb
  refine ⟨x, hx, ?_, ?_, ?_⟩
  · rw [← hx]
    have := OwI.lit_ (Below.refl _ R) [] (by simp [maxLen]) #[] rfl
    exact this.below (by repeat (first | exact Below.refl _ _ | assumption | refine bExt ?_ _ | refine bAlloc ?_ _ | refine bDrewN ?_ _ | refine bDrew ?_ | refine bSet ?_ (by first | exact Nat.le_refl _ | omega | (simp; done) | (simp; omega)) _))
  · rw [← hx]
    have := OwI.lit_ (bAlloc (Below.refl R.heap.size R) (.cells #[] 3)) [] (by simp [maxLen]) #[] rfl
    have e : (R.alloc (.cells #[] 3)).heap.size = g2 := by simp [h2]
    rw [e] at this
    exact this.below (by repeat (first | exact Below.refl _ _ | assumption | refine bExt ?_ _ | refine bAlloc ?_ _ | refine bDrewN ?_ _ | refine bDrew ?_ | refine bSet ?_ (by first | exact Nat.le_refl _ | omega | (simp; done) | (simp; omega)) _))
  · intro g ha hb
    simp only [blkOf, Option.map_some, Option.some.injEq] at ha hb
    omega
set_option maxHeartbeats 4000000 in
theorem timesOfDay_any (w : World) (L : Option Addr) (n cl : Nat) (l : List (Int × Int)) (a b c gap i delay : Int) (hl : RdS w L n l) (hsl : slotsB l = true) (hday : dayB a b c gap = true) (hd0 : 0 ≤ delay) (hd1 : delay ≤ 3600) :
    Calls Tryd.prog 77 #[.slice L n cl, .agg #[.int .i64 a, .int .i64 b, .int .i64 c, .int .i64 gap], .int .i64 i, .int .i64 delay] w (RetRun w (runS l a b c gap i delay) (runW l a b c gap i delay) (runT l a b c gap i delay)) := by
  have Hl := Lib.hid hl.len
  obtain ⟨_, hn1, hn40⟩ := slotsB_of hsl
  have hday' := hday
  simp only [dayB, Bool.and_eq_true] at hday'
  obtain ⟨⟨⟨ka, kb⟩, kc⟩, kg⟩ := hday'
  replace ka := inB_iff.1 ka
  replace kb := inB_iff.1 kb
  replace kc := inB_iff.1 kc
  replace kg := inB_iff.1 kg
  have ht : Timed l gap delay := ⟨fun k hk => by have := slotsB_music hsl k hk; omega, kg.1, kg.2, hd0, hd1⟩
  have hgs := Lib.hid (groups_all l.length b (by omega) kb.1)
  have hgp := groups_pos l.length b (by omega) kb.1
  have hgl := groupsOf_len l.length b (by omega) kb.1
  rw [Hl.out] at hn1 hn40
  unfold runS runW runT
  rw [Hl.out] at hgs hgp hgl ⊢
  generalize hG : groupsOf n b = gs at hgs hgp hgl ⊢
  have HG := Lib.hid hG
  clear hG
  go_enter Tryd.func77, Tryd.ntmps77
  go_upto_region 1 with fail
  go_cut [11, 12, 13] (fun v11 v12 t13 wx => ∃ (A B : Option Addr) (x : World), v11 = .slice A 0 0 ∧ v12 = .slice B 0 0 ∧ t13 = .int .i64 a ∧ wx = ext (w.alloc (.cells #[.int .i64 a, .int .i64 b, .int .i64 c, .int .i64 gap] 53)) x ∧ OwI (w.alloc (.cells #[.int .i64 a, .int .i64 b, .int .i64 c, .int .i64 gap] 53)).heap.size (ext (w.alloc (.cells #[.int .i64 a, .int .i64 b, .int .i64 c, .int .i64 gap] 53)) x) A 0 0 [] ∧ OwI (w.alloc (.cells #[.int .i64 a, .int .i64 b, .int .i64 c, .int .i64 gap] 53)).heap.size (ext (w.alloc (.cells #[.int .i64 a, .int .i64 b, .int .i64 c, .int .i64 gap] 53)) x) B 0 0 [] ∧ Dj A B)
  case first =>
    go_region
    all_goals
      go_wp2
      go_meet
    · obtain ⟨x, hx, q1, q2, q3⟩ := two_empty (w.alloc (.cells #[.int .i64 a, .int .i64 b, .int .i64 c, .int .i64 gap] 53)) (w.heap.size + 1) (w.heap.size + 1 + 1) (by simp) (by simp)
      exact ⟨_, _, x, rfl, rfl, rfl, hx, q1, q2, q3⟩
    · obtain ⟨x, hx, q1, q2, q3⟩ := two_empty (w.alloc (.cells #[.int .i64 a, .int .i64 b, .int .i64 c, .int .i64 gap] 53)) (w.heap.size + 1) (w.heap.size + 1 + 1) (by simp) (by simp)
      exact ⟨_, _, x, rfl, rfl, rfl, hx, q2, q1, q3.symm⟩
  case rest =>
    obtain ⟨A, B, x, rfl, rfl, rfl, rfl, oA, oB, hdj⟩ := hcut
    have hlR : RdS (w.alloc (.cells #[.int .i64 a, .int .i64 b, .int .i64 c, .int .i64 gap] 53)) L n l := hl.below (by repeat (first | exact Below.refl _ _ | assumption | refine bExt ?_ _ | refine bAlloc ?_ _ | refine bDrewN ?_ _ | refine bDrew ?_ | refine bSet ?_ (by first | exact Nat.le_refl _ | omega | (simp; done) | (simp; omega)) _))
    have hwz : w.heap.size < (w.alloc (.cells #[.int .i64 a, .int .i64 b, .int .i64 c, .int .i64 gap] 53)).heap.size := by simp
    have hb1 : (w.alloc (.cells #[.int .i64 a, .int .i64 b, .int .i64 c, .int .i64 gap] 53)).cell? ⟨w.heap.size, 1, none⟩ = some (.int .i64 b) := by simp [go_sem]
    have hb2 : (w.alloc (.cells #[.int .i64 a, .int .i64 b, .int .i64 c, .int .i64 gap] 53)).cell? ⟨w.heap.size, 2, none⟩ = some (.int .i64 c) := by simp [go_sem]
    have hb3 : (w.alloc (.cells #[.int .i64 a, .int .i64 b, .int .i64 c, .int .i64 gap] 53)).cell? ⟨w.heap.size, 3, none⟩ = some (.int .i64 gap) := by simp [go_sem]
    have HbR0 : Below w.heap.size w (w.alloc (.cells #[.int .i64 a, .int .i64 b, .int .i64 c, .int .i64 gap] 53)) := by repeat (first | exact Below.refl _ _ | assumption | refine bExt ?_ _ | refine bAlloc ?_ _ | refine bDrewN ?_ _ | refine bDrew ?_ | refine bSet ?_ (by first | exact Nat.le_refl _ | omega | (simp; done) | (simp; omega)) _)
    have HbR := Lib.hid HbR0
    clear HbR0
    generalize (w.alloc (.cells #[.int .i64 a, .int .i64 b, .int .i64 c, .int .i64 gap] 53)) = R at oA oB hlR hwz hb1 hb2 hb3 HbR ⊢
    go_wp2_with (go_at_call 106; ((with_reducible refine (warmUpGroups_any _ _ _ (by omega) (by omega) kb.1 (by omega)).mono ?_); rintro e w' ⟨G, gn, gc, xg, rfl, rfl, og⟩; rw [HG.out] at og; obtain rfl : gn = gs.length := og.len.symm))
    have oA1 := oA.below (ext_below _ xg)
    have oB1 := oB.below (ext_below _ xg)
    have hdAG : Dj A G := fun q h1 h2 => by have := (oA.blk h1).2; have := (og.blk h2).1; omega
    have hdBG : Dj B G := fun q h1 h2 => by have := (oB.blk h1).2; have := (og.blk h2).1; omega
    have oG := og.mono (ext_le R x)
    obtain ⟨x1, hx1⟩ := ext_ex (bExt (ext_below R x) xg)
    rw [hx1] at oA1 oB1 oG ⊢
    clear oA oB og hx1
    go_loopw [11, 12, 13, 15, 16, 27] (fun v11 v12 t13 _ _ i25 wr => ∃ (g : Nat) (A : Option Addr) (ca : Nat) (B : Option Addr) (cb : Nat) (x : World), g ≤ gs.length ∧ i25 = .int .i64 g ∧ v11 = .slice A (outK gs g) ca ∧ v12 = .slice B g cb ∧ t13 = .int .i64 (outT l a c gap i delay gs g) ∧ wr = ext R x ∧ OwI R.heap.size (ext R x) A (outK gs g) ca (outS l a c gap i delay gs g) ∧ OwI R.heap.size (ext R x) B g cb (outW l a c gap i delay gs g) ∧ OwI R.heap.size (ext R x) G gs.length gc gs ∧ Dj A B ∧ Dj A G ∧ Dj B G) (fun _ _ _ _ _ i25 _ => gs.length - (intOf i25).toNat)
    case atStart => exact ⟨0, A, 0, B, 0, x1, by omega, rfl, rfl, rfl, rfl, rfl, oA1, oB1, oG, hdj, hdAG, hdBG⟩
    case round =>
      clear oA1 oB1 oG hdj hdAG hdBG
      obtain ⟨g, A, ca, B, cb, x, hg, rfl, rfl, rfl, rfl, rfl, oA, oB, oG, hdj, hdAG, hdBG⟩ := hrel
      by_cases hlt : g < gs.length
      · have hKs := outK_succ gs g hlt
        have hKm := outK_mono gs (g + 1) gs.length (by omega)
        have hgt1 : outK gs gs.length ≤ n := by have := hgs.out; omega
        have hsz := hgp g hlt
        have HTs : Hid (outT l a c gap i delay gs (g + 1) = innT l gap i delay (outK gs g) (outT l a c gap i delay gs g + c) (gs[g]?.getD 0).toNat) := rfl
        have HSs : Hid (outS l a c gap i delay gs (g + 1) = outS l a c gap i delay gs g ++ innS l gap i delay (outK gs g) (outT l a c gap i delay gs g + c) (gs[g]?.getD 0).toNat) := rfl
        have HWs := Lib.hid (outW_succ l a c gap i delay gs g)
        have hTb := outT_bd (i := i) (g := g) (gs := gs) ht kc.1 kc.2 ka.1 ka.2 hg (by rw [Hl.out]; omega)
        obtain ⟨b1, o1, rfl, hb1, hc1⟩ := oG.rd.open_ (by omega)
        have hcg := hc1 g hlt
        clear hc1
        generalize hsv : gs[g]?.getD 0 = s at hsz hKs hcg HTs HSs
        simp only [List.getD_eq_getElem?_getD, hsv] at hcg
        clear hsv
        generalize outT l a c gap i delay gs g = T at *
        generalize outS l a c gap i delay gs g = S at *
        generalize outW l a c gap i delay gs g = WW at *
        generalize hK1 : outK gs (g + 1) = K1 at *
        have HK1 := Lib.hid hK1
        clear hK1
        generalize outK gs g = K at *
        generalize outK gs gs.length = KN at *
        have hgb : g ≤ 1099511627776 := by omega
        have hKs1 : K1 ≤ K + s.toNat := by omega
        have hKs2 : K + s.toNat ≤ K1 := by omega
        clear hKs
        go_wp2_with (first | (at_builtin; (refine wpl_push_int R _ _ _ ?_ rfl _ _ rfl B g cb _ rfl oB ?_ ?_ rfl hgb ?_); (focus (first | rfl | (simp; done))); (focus (repeat (first | exact Below.refl _ _ | assumption | refine bExt ?_ _ | refine bAlloc ?_ _ | refine bDrewN ?_ _ | refine bDrew ?_ | refine bSet ?_ (by first | exact Nat.le_refl _ | omega | (simp; done) | (simp; omega)) _))); (focus (repeat (first | exact Below.refl _ _ | assumption | refine bExt ?_ _ | refine bAlloc ?_ _ | refine bDrewN ?_ _ | refine bDrew ?_ | refine bSet ?_ (by first | exact Nat.le_refl _ | omega | (simp; done) | (simp; omega)) _))); intro B' cb' y oB' hgr hdd))
        have oA' := oA.kept hgr hdj.ne
        have oG' := oG.kept hgr hdBG.symm.ne
        have hdj' : Dj A B' := (Dj.push hdj.symm oA hdd).symm
        have hdBG' : Dj B' _ := Dj.push hdBG oG hdd
        clear hgr hdd oA oB hdj oG hdBG
        go_loopw [11, 13, 16, 40] (fun v11 t13 _ n16 wr => ∃ (j q : Nat) (A : Option Addr) (ca : Nat) (x : World), j ≤ s.toNat ∧ q ≤ K + j ∧ K + j ≤ q ∧ n16 = .int .i64 j ∧ v11 = .slice A q ca ∧ t13 = .int .i64 (innT l gap i delay K (T + c) j) ∧ wr = ext R x ∧ OwI R.heap.size (ext R x) A q ca (S ++ innS l gap i delay K (T + c) j) ∧ OwI R.heap.size (ext R x) B' (g + 1) cb' (WW ++ [T]) ∧ OwI R.heap.size (ext R x) (some ⟨b1, o1, none⟩) gs.length gc gs ∧ Dj A B' ∧ Dj A (some ⟨b1, o1, none⟩)) (fun _ _ _ n16 _ => s.toNat - (intOf n16).toNat)
        case atStart => exact ⟨0, K, A, ca, y, by omega, by omega, by omega, by go_num, rfl, rfl, rfl, by simpa [innS] using oA', oB', oG', hdj', hdAG⟩
        case round =>
          clear oA' oB' hdj' oG' hdAG
          obtain ⟨j, q, A, ca, x, hj, hq1, hq2, rfl, rfl, rfl, rfl, oA, oB, oG, hdj, hdAG⟩ := hrel
          by_cases hjs : (j : Int) < s
          · have hqn : q < n := by omega
            obtain ⟨b2, o2, rfl, hb2, hm0, hm1⟩ := hlR.at_ q hqn
            have hmu := ht.music q (by rw [Hl.out]; exact hqn)
            have htb := innT_bd (i := i) (k0 := K) (t0 := T + c) (j := j) ht (by rw [Hl.out]; omega)
            have HSj := Lib.hid (innS_succ l gap i delay K (T + c) j)
            have HTj : Hid (innT l gap i delay K (T + c) (j + 1) = nxtT l gap i delay q (innT l gap i delay K (T + c) j)) := by
              have : K + j = q := by omega
              show nxtT l gap i delay (K + j) _ = _
              rw [this]
            unfold nxtT at HTj
            generalize (l[q]?.getD (0, 0)).2 = mu at *
            generalize innT l gap i delay K (T + c) j = tt at *
            have hqb : q ≤ 1099511627776 := by omega
            have hw1 : IntKind.i64.wrap (mu + gap) = mu + gap := IntWalk.i64_in _ (by omega)
            have hw2 : IntKind.i64.wrap (tt + (mu + gap)) = tt + (mu + gap) := IntWalk.i64_in _ (by omega)
            by_cases hi : (q : Int) = i
            · have HI := Lib.hid hi
              have hib : ((q : Int) == i) = true := by simpa using hi
              have hw3 : IntKind.i64.wrap (tt + (mu + gap) + delay) = tt + (mu + gap) + delay := IntWalk.i64_in _ (by omega)
              clear hi
              go_wp2_with (first | (at_builtin; (refine wpl_push_int R _ _ _ ?_ rfl _ _ rfl A q ca _ rfl oA ?_ ?_ rfl hqb ?_); (focus (first | rfl | (simp; done))); (focus (repeat (first | exact Below.refl _ _ | assumption | refine bExt ?_ _ | refine bAlloc ?_ _ | refine bDrewN ?_ _ | refine bDrew ?_ | refine bSet ?_ (by first | exact Nat.le_refl _ | omega | (simp; done) | (simp; omega)) _))); (focus (repeat (first | exact Below.refl _ _ | assumption | refine bExt ?_ _ | refine bAlloc ?_ _ | refine bDrewN ?_ _ | refine bDrew ?_ | refine bSet ?_ (by first | exact Nat.le_refl _ | omega | (simp; done) | (simp; omega)) _))); intro A' ca' y oA' hgr hdd))
              go_quiet (fail)
              clear hw1 hw2 hw3
              go_wp2
              have oB' := oB.kept hgr hdj.symm.ne
              have oG' := oG.kept hgr hdAG.symm.ne
              have hdj' : Dj A' B' := Dj.push hdj oB hdd
              have hdAG' : Dj A' _ := Dj.push hdAG oG hdd
              obtain ⟨z, hz⟩ := ext_ex (bDrewN (ext_below R y) nq)
              have oA2 := oA'.below (bDrewN (Below.refl _ _) nq)
              have oB2 := oB'.below (bDrewN (Below.refl _ _) nq)
              have oG2 := oG'.below (bDrewN (Below.refl _ _) nq)
              rw [hz] at oA2 oB2 oG2
              go_roundw
              case rel => exact ⟨j + 1, q + 1, A', ca', z, by omega, by omega, by omega, by go_num, rfl, by rw [HTj.out, if_pos HI.out], hz, by rw [HSj.out, ← List.append_assoc]; exact oA2, oB2, oG2, hdj', hdAG'⟩
              case measure => simp [intOf]; omega
            · have hib : ((q : Int) == i) = false := by simpa using hi
              have HI := Lib.hid hi
              clear hi
              go_wp2_with (first | (at_builtin; (refine wpl_push_int R _ _ _ ?_ rfl _ _ rfl A q ca _ rfl oA ?_ ?_ rfl hqb ?_); (focus (first | rfl | (simp; done))); (focus (repeat (first | exact Below.refl _ _ | assumption | refine bExt ?_ _ | refine bAlloc ?_ _ | refine bDrewN ?_ _ | refine bDrew ?_ | refine bSet ?_ (by first | exact Nat.le_refl _ | omega | (simp; done) | (simp; omega)) _))); (focus (repeat (first | exact Below.refl _ _ | assumption | refine bExt ?_ _ | refine bAlloc ?_ _ | refine bDrewN ?_ _ | refine bDrew ?_ | refine bSet ?_ (by first | exact Nat.le_refl _ | omega | (simp; done) | (simp; omega)) _))); intro A' ca' y oA' hgr hdd))
              go_quiet (fail)
              clear hw1 hw2
              go_wp2
              have oB' := oB.kept hgr hdj.symm.ne
              have oG' := oG.kept hgr hdAG.symm.ne
              have hdj' : Dj A' B' := Dj.push hdj oB hdd
              have hdAG' : Dj A' _ := Dj.push hdAG oG hdd
              obtain ⟨z, hz⟩ := ext_ex (bDrewN (ext_below R y) nq)
              have oA2 := oA'.below (bDrewN (Below.refl _ _) nq)
              have oB2 := oB'.below (bDrewN (Below.refl _ _) nq)
              have oG2 := oG'.below (bDrewN (Below.refl _ _) nq)
              rw [hz] at oA2 oB2 oG2
              go_roundw
              case rel => exact ⟨j + 1, q + 1, A', ca', z, by omega, by omega, by omega, by go_num, rfl, by rw [HTj.out, if_neg HI.out, Int.add_zero], hz, by rw [HSj.out, ← List.append_assoc]; exact oA2, oB2, oG2, hdj', hdAG'⟩
              case measure => simp [intOf]; omega
          · obtain rfl : j = s.toNat := by omega
            obtain rfl : q = K1 := by omega
            go_wp2
            go_roundw
            case rel => exact ⟨g + 1, A, ca, B', cb', x, by omega, by go_num, by rw [HK1.out], rfl, by rw [HTs.out], rfl, by rw [HSs.out, HK1.out]; exact oA, by rw [HWs.out]; exact oB, oG, hdj, hdAG, hdBG'⟩
            case measure => simp [intOf]; omega
      · obtain rfl : g = gs.length := by omega
        go_wp2
        go_ret3
        exact RetRun.mk_ oA oB HbR.out.size (HbR.out.trans ((ext_below R x).mono HbR.out.size))
end Go.Proofs.YtpjaiihkgeabiaaDoor
