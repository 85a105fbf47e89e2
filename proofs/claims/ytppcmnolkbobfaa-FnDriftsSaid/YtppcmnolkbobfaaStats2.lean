/- Contracts of BiasOf and SlopeOf, in the program and in the reference. Conditions: lengths below 2^40. -/
import Derived.Test.YtppcmnolkbobfaaStats
set_option linter.unusedVariables false
set_option linter.unusedSimpArgs false
set_option maxRecDepth 100000
namespace Go.Proofs.Ytppcmnolkbobfaa
open Go.ChangeShapes Go.WideShapes Go.ChangeAt Go.RowKit
theorem mul_bdR {a b A B : Int} (h1 : -A ≤ a) (h2 : a ≤ A) (h3 : 0 ≤ b) (h4 : b ≤ B) : -(A * B) ≤ b * a ∧ b * a ≤ A * B := by rw [Int.mul_comm b a]; exact mul_bd h1 h2 h3 h4
def biasOk (l r : List Int) : Bool := serB l && serB r
def biasT (l r : List Int) : Int := sumTo l l.length * r.length - sumTo r r.length * l.length
def biasU (l r : List Int) : Int := l.length * r.length
def biasA (l r : List Int) : Int := if biasOk l r then lowA (biasT l r) (biasU l r) else 0
def biasB (l r : List Int) : Int := if biasOk l r then lowB (biasT l r) (biasU l r) else 0
theorem bias_no {l r : List Int} (h : biasOk l r = false) : biasA l r = 0 ∧ biasB l r = 0 := by simp [biasA, biasB, h]
theorem bias_yes {l r : List Int} (h : biasOk l r = true) : biasA l r = lowA (biasT l r) (biasU l r) ∧ biasB l r = lowB (biasT l r) (biasU l r) := by simp [biasA, biasB, h]
set_option maxHeartbeats 1000000 in
theorem specBiasOf_any (w : World) (A B : Option Addr) (n m c d : Nat) (l r : List Int) (ha : RdI w A n l) (hb : RdI w B m r) (hn : n ≤ 1099511627776) (hm : m ≤ 1099511627776) :
    Calls Try.prog 16 #[.slice A n c, .slice B m d] w fun e w' => e = .returned (.tuple #[.int .i64 (biasA l r), .int .i64 (biasB l r), .bool (biasOk l r)]) ∧ ∃ x, w' = ext w x := by
  have Ha := Lib.hid ha.len
  have Hb := Lib.hid hb.len
  cases h1 : serB l
  · have hk : biasOk l r = false := by simp [biasOk, h1]
    have hv := bias_no hk
    rw [hv.1, hv.2, hk]
    go_enter Try.func16, Try.ntmps16
    go_wp2_with (first | (go_at_call 97; ((with_reducible refine (jdSeries_any _ _ _ _ _ ha hn).mono ?_); rintro e w' ⟨rfl, rfl⟩)) | (go_at_call 97; ((with_reducible refine (jdSeries_any _ _ _ _ _ hb hm).mono ?_); rintro e w' ⟨rfl, rfl⟩)))
    go_ret3
    exact ⟨rfl, ext_ex (by repeat (first | exact Below.refl _ _ | assumption | refine bExt ?_ _ | refine bAlloc ?_ _ | refine bDrewN ?_ _ | refine bDrew ?_ | refine bSet ?_ (by first | exact Nat.le_refl _ | omega | (simp; done) | (simp; omega)) _))⟩
  cases h2 : serB r
  · have hk : biasOk l r = false := by simp [biasOk, h2]
    have hv := bias_no hk
    rw [hv.1, hv.2, hk]
    go_enter Try.func16, Try.ntmps16
    go_wp2_with (first | (go_at_call 97; ((with_reducible refine (jdSeries_any _ _ _ _ _ ha hn).mono ?_); rintro e w' ⟨rfl, rfl⟩)) | (go_at_call 97; ((with_reducible refine (jdSeries_any _ _ _ _ _ hb hm).mono ?_); rintro e w' ⟨rfl, rfl⟩)))
    go_ret3
    exact ⟨rfl, ext_ex (by repeat (first | exact Below.refl _ _ | assumption | refine bExt ?_ _ | refine bAlloc ?_ _ | refine bDrewN ?_ _ | refine bDrew ?_ | refine bSet ?_ (by first | exact Nat.le_refl _ | omega | (simp; done) | (simp; omega)) _))⟩
  have hk : biasOk l r = true := by simp [biasOk, h1, h2]
  have hv := bias_yes hk
  rw [hv.1, hv.2, hk]
  clear hv hk
  unfold biasT biasU
  rw [Ha.out, Hb.out]
  obtain ⟨⟨p1, p2⟩, p3⟩ := serB_of h1
  obtain ⟨⟨q1, q2⟩, q3⟩ := serB_of h2
  rw [Ha.out] at p1 p2
  rw [Hb.out] at q1 q2
  have s1 := sumTo_bd (by omega) p3 n
  have s2 := sumTo_bd (by omega) q3 m
  have c1 := jdSum_any w A n c l ha (by omega) p3
  have c2 := jdSum_any w B m d r hb (by omega) q3
  generalize sumTo l n = so at *
  generalize sumTo r m = sr at *
  have m1 := mul_bd (a := so) (b := m) (A := 6000000) (B := 60) (by omega) (by omega) (by omega) (by omega)
  have m2 := mul_bd (a := sr) (b := n) (A := 6000000) (B := 60) (by omega) (by omega) (by omega) (by omega)
  have m3 := mul_bd (a := n) (b := m) (A := 60) (B := 60) (by omega) (by omega) (by omega) (by omega)
  have m4 : 0 < (n : Int) * m := Int.mul_pos (by omega) (by omega)
  have cl := jdPart_any (so * m - sr * n) (n * m) w (by omega) (by omega) m4 (by omega)
  go_enter Try.func16, Try.ntmps16
  go_wp2_with (first | (go_at_call 97; ((with_reducible refine (jdSeries_any _ _ _ _ _ ha hn).mono ?_); rintro e w' ⟨rfl, rfl⟩)) | (go_at_call 97; ((with_reducible refine (jdSeries_any _ _ _ _ _ hb hm).mono ?_); rintro e w' ⟨rfl, rfl⟩)) | (go_at_call 104; ((with_reducible refine (c1).mono ?_); rintro e w' ⟨rfl, rfl⟩)) | (go_at_call 104; ((with_reducible refine (c2).mono ?_); rintro e w' ⟨rfl, rfl⟩)) | (go_at_call 103; ((with_reducible refine (cl).mono ?_); rintro e w' ⟨rfl, x, rfl⟩)))
  go_ret3
  exact ⟨rfl, _, rfl⟩
set_option maxHeartbeats 1000000 in
theorem implBiasOf_any (w : World) (A B : Option Addr) (n m c d : Nat) (l r : List Int) (ha : RdI w A n l) (hb : RdI w B m r) (hn : n ≤ 1099511627776) (hm : m ≤ 1099511627776) :
    Calls Try.prog 15 #[.slice A n c, .slice B m d] w fun e w' => e = .returned (.tuple #[.int .i64 (biasA l r), .int .i64 (biasB l r), .bool (biasOk l r)]) ∧ ∃ x, w' = ext w x := by
  have Ha := Lib.hid ha.len
  have Hb := Lib.hid hb.len
  cases h1 : serB l
  · have hk : biasOk l r = false := by simp [biasOk, h1]
    have hv := bias_no hk
    rw [hv.1, hv.2, hk]
    go_enter Try.func15, Try.ntmps15
    go_wp2_with (first | (go_at_call 94; ((with_reducible refine (isSeries_any _ _ _ _ _ ha hn).mono ?_); rintro e w' ⟨rfl, rfl⟩)) | (go_at_call 94; ((with_reducible refine (isSeries_any _ _ _ _ _ hb hm).mono ?_); rintro e w' ⟨rfl, rfl⟩)))
    go_ret3
    exact ⟨rfl, ext_ex (by repeat (first | exact Below.refl _ _ | assumption | refine bExt ?_ _ | refine bAlloc ?_ _ | refine bDrewN ?_ _ | refine bDrew ?_ | refine bSet ?_ (by first | exact Nat.le_refl _ | omega | (simp; done) | (simp; omega)) _))⟩
  cases h2 : serB r
  · have hk : biasOk l r = false := by simp [biasOk, h2]
    have hv := bias_no hk
    rw [hv.1, hv.2, hk]
    go_enter Try.func15, Try.ntmps15
    go_wp2_with (first | (go_at_call 94; ((with_reducible refine (isSeries_any _ _ _ _ _ ha hn).mono ?_); rintro e w' ⟨rfl, rfl⟩)) | (go_at_call 94; ((with_reducible refine (isSeries_any _ _ _ _ _ hb hm).mono ?_); rintro e w' ⟨rfl, rfl⟩)))
    go_ret3
    exact ⟨rfl, ext_ex (by repeat (first | exact Below.refl _ _ | assumption | refine bExt ?_ _ | refine bAlloc ?_ _ | refine bDrewN ?_ _ | refine bDrew ?_ | refine bSet ?_ (by first | exact Nat.le_refl _ | omega | (simp; done) | (simp; omega)) _))⟩
  have hk : biasOk l r = true := by simp [biasOk, h1, h2]
  have hv := bias_yes hk
  rw [hv.1, hv.2, hk]
  clear hv hk
  unfold biasT biasU
  rw [Ha.out, Hb.out]
  obtain ⟨⟨p1, p2⟩, p3⟩ := serB_of h1
  obtain ⟨⟨q1, q2⟩, q3⟩ := serB_of h2
  rw [Ha.out] at p1 p2
  rw [Hb.out] at q1 q2
  have s1 := sumTo_bd (by omega) p3 n
  have s2 := sumTo_bd (by omega) q3 m
  have c1 := sumInts_any w A n c l ha (by omega) p3
  have c2 := sumInts_any w B m d r hb (by omega) q3
  generalize sumTo l n = so at *
  generalize sumTo r m = sr at *
  have m1 := mul_bd (a := so) (b := m) (A := 6000000) (B := 60) (by omega) (by omega) (by omega) (by omega)
  have m2 := mul_bd (a := sr) (b := n) (A := 6000000) (B := 60) (by omega) (by omega) (by omega) (by omega)
  have m3 := mul_bd (a := n) (b := m) (A := 60) (B := 60) (by omega) (by omega) (by omega) (by omega)
  have m4 : 0 < (n : Int) * m := Int.mul_pos (by omega) (by omega)
  have cl := lowestTerms_any (so * m - sr * n) (n * m) w (by omega) (by omega) m4 (by omega)
  go_enter Try.func15, Try.ntmps15
  go_wp2_with (first | (go_at_call 94; ((with_reducible refine (isSeries_any _ _ _ _ _ ha hn).mono ?_); rintro e w' ⟨rfl, rfl⟩)) | (go_at_call 94; ((with_reducible refine (isSeries_any _ _ _ _ _ hb hm).mono ?_); rintro e w' ⟨rfl, rfl⟩)) | (go_at_call 102; ((with_reducible refine (c1).mono ?_); rintro e w' ⟨rfl, rfl⟩)) | (go_at_call 102; ((with_reducible refine (c2).mono ?_); rintro e w' ⟨rfl, rfl⟩)) | (go_at_call 101; ((with_reducible refine (cl).mono ?_); rintro e w' ⟨rfl, x, rfl⟩)))
  go_ret3
  exact ⟨rfl, _, rfl⟩
def plTo : Nat → Int
  | 0 => 0
  | k + 1 => plTo k + k
def sqTo : Nat → Int
  | 0 => 0
  | k + 1 => sqTo k + k * k
def prTo (l : List Int) : Nat → Int
  | 0 => 0
  | k + 1 => prTo l k + k * l[k]?.getD 0
set_option maxRecDepth 100000 in
theorem pl_facts : ∀ n : Nat, n < 61 → (0 ≤ plTo n ∧ plTo n ≤ 1770) ∧ (0 ≤ sqTo n ∧ sqTo n ≤ 70210) := by decide
set_option maxRecDepth 100000 in
theorem sq_pos : ∀ n : Nat, n < 61 → 2 ≤ n → 0 < (n : Int) * sqTo n - plTo n * plTo n ∧ (n : Int) * sqTo n - plTo n * plTo n ≤ 10000000 := by decide
theorem prTo_bd {l : List Int} (hb : ∀ k : Nat, -100000 ≤ l[k]?.getD 0 ∧ l[k]?.getD 0 ≤ 100000) (k : Nat) (hk : k ≤ 60) : -(6000000 * (k : Int)) ≤ prTo l k ∧ prTo l k ≤ 6000000 * k := by
  induction k with
  | zero => simp [prTo]
  | succ k ih =>
    have h1 := hb k
    have h2 := mul_bdR (a := l[k]?.getD 0) (b := k) (A := 100000) (B := 60) h1.1 h1.2 (by omega) (by omega)
    have h3 := ih (by omega)
    simp only [prTo]; push_cast; omega
def slOk (l : List Int) : Bool := serB l && !decide (l.length = 1)
def slT (l : List Int) : Int := l.length * prTo l l.length - plTo l.length * sumTo l l.length
def slU (l : List Int) : Int := l.length * sqTo l.length - plTo l.length * plTo l.length
def slA (l : List Int) : Int := if slOk l then lowA (slT l) (slU l) else 0
def slB (l : List Int) : Int := if slOk l then lowB (slT l) (slU l) else 0
theorem sl_no {l : List Int} (h : slOk l = false) : slA l = 0 ∧ slB l = 0 := by simp [slA, slB, h]
theorem sl_yes {l : List Int} (h : slOk l = true) : slA l = lowA (slT l) (slU l) ∧ slB l = lowB (slT l) (slU l) := by simp [slA, slB, h]
set_option maxHeartbeats 2000000 in
theorem specSlopeOf_any (w : World) (A : Option Addr) (n c : Nat) (l : List Int) (ha : RdI w A n l) (hn : n ≤ 1099511627776) :
    Calls Try.prog 19 #[.slice A n c] w fun e w' => e = .returned (.tuple #[.int .i64 (slA l), .int .i64 (slB l), .bool (slOk l)]) ∧ ∃ x, w' = ext w x := by
  have Hl := Lib.hid ha.len
  cases h1 : serB l
  · have hk : slOk l = false := by simp [slOk, h1]
    have hv := sl_no hk
    rw [hv.1, hv.2, hk]
    go_enter Try.func19, Try.ntmps19
    go_wp2_with (first | (go_at_call 97; ((with_reducible refine (jdSeries_any _ _ _ _ _ ha hn).mono ?_); rintro e w' ⟨rfl, rfl⟩)))
    go_ret3
    exact ⟨rfl, ext_ex (by repeat (first | exact Below.refl _ _ | assumption | refine bExt ?_ _ | refine bAlloc ?_ _ | refine bDrewN ?_ _ | refine bDrew ?_ | refine bSet ?_ (by first | exact Nat.le_refl _ | omega | (simp; done) | (simp; omega)) _))⟩
  by_cases h2 : n = 1
  · have hk : slOk l = false := by simp [slOk, Hl.out, h2]
    have hv := sl_no hk
    rw [hv.1, hv.2, hk]
    subst h2
    go_enter Try.func19, Try.ntmps19
    go_wp2_with (first | (go_at_call 97; ((with_reducible refine (jdSeries_any _ _ _ _ _ ha hn).mono ?_); rintro e w' ⟨rfl, rfl⟩)))
    go_ret3
    exact ⟨rfl, ext_ex (by repeat (first | exact Below.refl _ _ | assumption | refine bExt ?_ _ | refine bAlloc ?_ _ | refine bDrewN ?_ _ | refine bDrew ?_ | refine bSet ?_ (by first | exact Nat.le_refl _ | omega | (simp; done) | (simp; omega)) _))⟩
  have hk : slOk l = true := by simp [slOk, h1, Hl.out, h2]
  have hv := sl_yes hk
  rw [hv.1, hv.2, hk]
  clear hv hk
  unfold slT slU
  rw [Hl.out]
  have h1' := h1
  obtain ⟨⟨p1, p2⟩, p3⟩ := serB_of h1
  rw [Hl.out] at p1 p2
  have h2' : ((n : Int) == 1) = false := by simp; omega
  have s1 := sumTo_bd (by omega) p3 n
  have c1 := jdSum_any w A n c l ha (by omega) p3
  have hg := getD_bd p3
  go_enter Try.func19, Try.ntmps19
  go_wp2_with (first | (go_at_call 97; ((with_reducible refine (jdSeries_any _ _ _ _ _ ha hn).mono ?_); rintro e w' ⟨rfl, rfl⟩)))
  go_loop [6, 7, 8, 9, 10, 25] (fun a b c _ _ i => ∃ k : Nat, k ≤ n ∧ i = .int .i64 k ∧ a = .int .i64 (plTo k) ∧ b = .int .i64 (sqTo k) ∧ c = .int .i64 (prTo l k)) (fun _ _ _ _ _ i => n - (intOf i).toNat)
  case atStart => exact ⟨0, by omega, rfl, rfl, rfl, rfl⟩
  case round =>
    obtain ⟨k, hk, rfl, rfl, rfl, rfl⟩ := hrel
    have f1 := pl_facts k (by omega)
    have f2 := prTo_bd hg k (by omega)
    by_cases hlt : k < n
    · obtain ⟨b, off, rfl, hb0, hc⟩ := ha.open_ (by omega)
      have hck := hc k hlt
      rw [List.getD_eq_getElem?_getD] at hck
      have g1 := hg k
      have HP : Hid (plTo (k + 1) = plTo k + k) := rfl
      have HQ : Hid (sqTo (k + 1) = sqTo k + k * k) := rfl
      have HR : Hid (prTo l (k + 1) = prTo l k + k * l[k]?.getD 0) := rfl
      clear hc hg c1 s1
      generalize l[k]?.getD 0 = x at *
      generalize plTo k = pl at *
      generalize sqTo k = sq at *
      generalize prTo l k = pr at *
      have m1 := mul_bd (a := (k : Int)) (b := k) (A := 60) (B := 60) (by omega) (by omega) (by omega) (by omega)
      have m2 := mul_bdR (a := x) (b := k) (A := 100000) (B := 60) (by omega) (by omega) (by omega) (by omega)
      go_wp2
      go_round
      case rel => exact ⟨k + 1, by omega, by go_num, by rw [HP.out], by rw [HQ.out], by rw [HR.out]⟩
      case measure => simp [intOf]; omega
    · obtain rfl : k = n := by omega
      have f3 := sq_pos k (by omega) (by omega)
      clear hg
      generalize hpl : plTo k = pl at *
      generalize hsq : sqTo k = sq at *
      generalize hpr : prTo l k = pr at *
      generalize hsu : sumTo l k = su at *
      have Hpl := Lib.hid hpl; have Hsq := Lib.hid hsq; have Hpr := Lib.hid hpr; have Hsu := Lib.hid hsu
      clear hpl hsq hpr hsu
      have m1 := mul_bdR (a := pr) (b := k) (A := 360000000) (B := 60) (by omega) (by omega) (by omega) (by omega)
      have m2 := mul_bdR (a := su) (b := pl) (A := 6000000) (B := 1770) (by omega) (by omega) (by omega) (by omega)
      have m3 := mul_bdR (a := sq) (b := k) (A := 70210) (B := 60) (by omega) (by omega) (by omega) (by omega)
      have m4 := mul_bd (a := pl) (b := pl) (A := 1770) (B := 1770) (by omega) (by omega) (by omega) (by omega)
      have cl := jdPart_any (k * pr - pl * su) (k * sq - pl * pl) w (by omega) (by omega) f3.1 (by omega)
      go_wp2_with (first | (go_at_call 104; ((with_reducible refine (c1).mono ?_); rintro e w' ⟨rfl, rfl⟩)) | (go_at_call 103; ((with_reducible refine (cl).mono ?_); rintro e w' ⟨rfl, x, rfl⟩)))
      go_ret3
      exact ⟨ret_int2B (by rw [Hpl.out, Hsq.out, Hpr.out, Hsu.out]) (by rw [Hpl.out, Hsq.out, Hpr.out, Hsu.out]), _, rfl⟩
set_option maxHeartbeats 2000000 in
theorem implSlopeOf_any (w : World) (A : Option Addr) (n c : Nat) (l : List Int) (ha : RdI w A n l) (hn : n ≤ 1099511627776) :
    Calls Try.prog 18 #[.slice A n c] w fun e w' => e = .returned (.tuple #[.int .i64 (slA l), .int .i64 (slB l), .bool (slOk l)]) ∧ ∃ x, w' = ext w x := by
  have Hl := Lib.hid ha.len
  cases h1 : serB l
  · have hk : slOk l = false := by simp [slOk, h1]
    have hv := sl_no hk
    rw [hv.1, hv.2, hk]
    go_enter Try.func18, Try.ntmps18
    go_wp2_with (first | (go_at_call 94; ((with_reducible refine (isSeries_any _ _ _ _ _ ha hn).mono ?_); rintro e w' ⟨rfl, rfl⟩)))
    go_ret3
    exact ⟨rfl, ext_ex (by repeat (first | exact Below.refl _ _ | assumption | refine bExt ?_ _ | refine bAlloc ?_ _ | refine bDrewN ?_ _ | refine bDrew ?_ | refine bSet ?_ (by first | exact Nat.le_refl _ | omega | (simp; done) | (simp; omega)) _))⟩
  by_cases h2 : n = 1
  · have hk : slOk l = false := by simp [slOk, Hl.out, h2]
    have hv := sl_no hk
    rw [hv.1, hv.2, hk]
    subst h2
    go_enter Try.func18, Try.ntmps18
    go_wp2_with (first | (go_at_call 94; ((with_reducible refine (isSeries_any _ _ _ _ _ ha hn).mono ?_); rintro e w' ⟨rfl, rfl⟩)))
    go_ret3
    exact ⟨rfl, ext_ex (by repeat (first | exact Below.refl _ _ | assumption | refine bExt ?_ _ | refine bAlloc ?_ _ | refine bDrewN ?_ _ | refine bDrew ?_ | refine bSet ?_ (by first | exact Nat.le_refl _ | omega | (simp; done) | (simp; omega)) _))⟩
  have hk : slOk l = true := by simp [slOk, h1, Hl.out, h2]
  have hv := sl_yes hk
  rw [hv.1, hv.2, hk]
  clear hv hk
  unfold slT slU
  rw [Hl.out]
  have h1' := h1
  obtain ⟨⟨p1, p2⟩, p3⟩ := serB_of h1
  rw [Hl.out] at p1 p2
  have h2' : ((n : Int) == 1) = false := by simp; omega
  have s1 := sumTo_bd (by omega) p3 n
  have c1 := sumInts_any w A n c l ha (by omega) p3
  have hg := getD_bd p3
  go_enter Try.func18, Try.ntmps18
  go_wp2_with (first | (go_at_call 94; ((with_reducible refine (isSeries_any _ _ _ _ _ ha hn).mono ?_); rintro e w' ⟨rfl, rfl⟩)))
  go_loop [6, 7, 8, 9, 10, 25] (fun a b c _ _ i => ∃ k : Nat, k ≤ n ∧ i = .int .i64 k ∧ a = .int .i64 (plTo k) ∧ b = .int .i64 (sqTo k) ∧ c = .int .i64 (prTo l k)) (fun _ _ _ _ _ i => n - (intOf i).toNat)
  case atStart => exact ⟨0, by omega, rfl, rfl, rfl, rfl⟩
  case round =>
    obtain ⟨k, hk, rfl, rfl, rfl, rfl⟩ := hrel
    have f1 := pl_facts k (by omega)
    have f2 := prTo_bd hg k (by omega)
    by_cases hlt : k < n
    · obtain ⟨b, off, rfl, hb0, hc⟩ := ha.open_ (by omega)
      have hck := hc k hlt
      rw [List.getD_eq_getElem?_getD] at hck
      have g1 := hg k
      have HP : Hid (plTo (k + 1) = plTo k + k) := rfl
      have HQ : Hid (sqTo (k + 1) = sqTo k + k * k) := rfl
      have HR : Hid (prTo l (k + 1) = prTo l k + k * l[k]?.getD 0) := rfl
      clear hc hg c1 s1
      generalize l[k]?.getD 0 = x at *
      generalize plTo k = pl at *
      generalize sqTo k = sq at *
      generalize prTo l k = pr at *
      have m1 := mul_bd (a := (k : Int)) (b := k) (A := 60) (B := 60) (by omega) (by omega) (by omega) (by omega)
      have m2 := mul_bdR (a := x) (b := k) (A := 100000) (B := 60) (by omega) (by omega) (by omega) (by omega)
      go_wp2
      go_round
      case rel => exact ⟨k + 1, by omega, by go_num, by rw [HP.out], by rw [HQ.out], by rw [HR.out]⟩
      case measure => simp [intOf]; omega
    · obtain rfl : k = n := by omega
      have f3 := sq_pos k (by omega) (by omega)
      clear hg
      generalize hpl : plTo k = pl at *
      generalize hsq : sqTo k = sq at *
      generalize hpr : prTo l k = pr at *
      generalize hsu : sumTo l k = su at *
      have Hpl := Lib.hid hpl; have Hsq := Lib.hid hsq; have Hpr := Lib.hid hpr; have Hsu := Lib.hid hsu
      clear hpl hsq hpr hsu
      have m1 := mul_bdR (a := pr) (b := k) (A := 360000000) (B := 60) (by omega) (by omega) (by omega) (by omega)
      have m2 := mul_bdR (a := su) (b := pl) (A := 6000000) (B := 1770) (by omega) (by omega) (by omega) (by omega)
      have m3 := mul_bdR (a := sq) (b := k) (A := 70210) (B := 60) (by omega) (by omega) (by omega) (by omega)
      have m4 := mul_bd (a := pl) (b := pl) (A := 1770) (B := 1770) (by omega) (by omega) (by omega) (by omega)
      have cl := lowestTerms_any (k * pr - pl * su) (k * sq - pl * pl) w (by omega) (by omega) f3.1 (by omega)
      go_wp2_with (first | (go_at_call 102; ((with_reducible refine (c1).mono ?_); rintro e w' ⟨rfl, rfl⟩)) | (go_at_call 101; ((with_reducible refine (cl).mono ?_); rintro e w' ⟨rfl, x, rfl⟩)))
      go_ret3
      exact ⟨ret_int2B (by rw [Hpl.out, Hsq.out, Hpr.out, Hsu.out]) (by rw [Hpl.out, Hsq.out, Hpr.out, Hsu.out]), _, rfl⟩
end Go.Proofs.Ytppcmnolkbobfaa
