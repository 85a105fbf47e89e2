/- Contracts: items read from text, in the program. Conditions: strings below 2^21 bytes; the table that holds the signs of marks. -/
import Derived.Test.YtlfhhkgleapamaaGreatDoorRFors
import Derived.Test.YtlfhhkgleapamaaGreatDoorRReads
import Derived.Test.YtlfhhkgleapamaaGreatDoorRDoors
import Derived.LoopN
import Derived.Test.YtlfhhkgleapamaaGreatDoorRTrims
set_option linter.unusedVariables false
set_option linter.unusedSimpArgs false
set_option maxRecDepth 100000
set_option maxHeartbeats 16000000
namespace Go.Proofs.YtlfhhkgleapamaaGreatDoor
open Go.RowKit
variable {b hi n : Nat} {l : Str} {c : UInt8} {W w : World}
theorem suf1 (l : Str) (c : UInt8) : Lib.hasSuffix l [c] = (l.getLast? == some c) := by
 unfold Lib.hasSuffix;rw [List.isSuffixOf, <- List.head?_reverse]
 cases l.reverse with
 | nil => rfl
 | cons a r =>
  simp only [List.reverse_cons, List.reverse_nil, List.nil_append, List.isPrefixOf, Bool.and_true, List.head?_cons];by_cases h : a = c
  ·
   subst h; rw [beq_self_eq_true, beq_self_eq_true]
  ·
   rw [beq_eq_false_iff_ne.2 (fun e => h e.symm), beq_eq_false_iff_ne.2 (fun e => h (Option.some.inj e))]
theorem trimS1 (h : l.getLast? = some c) : Lib.trimSuffix l [c] = l.dropLast := by
 unfold Lib.trimSuffix;rw [suf1, h, beq_self_eq_true, if_pos rfl, List.dropLast_eq_take]; rfl
theorem trimS0 (h : ¬ l.getLast? = some c) : Lib.trimSuffix l [c] = l := by
 unfold Lib.trimSuffix;rw [suf1, beq_eq_false_iff_ne.2 h]; rfl
theorem cutX_lib (s : Str) : cutX s = (Lib.trimSuffix s [32, 120], Lib.hasSuffix s [32, 120]) := by
 unfold cutX Lib.trimSuffix Lib.hasSuffix
 cases h : [32, 120].isSuffixOf s <;> simp
def nmsOf (s : Str) : List BA := ((spl 43 (cutX s).1).map bs).map fun w => bs (sepW w.data.toList).1
def mksOf (s : Str) : List Int := ((spl 43 (cutX s).1).map bs).map fun w => (sepW w.data.toList).2
theorem itOf_def (s : Str) : itOf s = (nmsOf s, mksOf s, (cutX s).2) := by
 unfold itOf nmsOf mksOf;simp only [List.map_map, Function.comp_def, bs_data]
theorem spl_sum (c : UInt8) : ∀ l : Str, ((spl c l).map (fun x => x.length + 1)).sum = l.length + 1
 | [] => rfl
 | a :: r => by
  have ih := spl_sum c r;rw [<- spl_ht c r] at ih;unfold spl
  split
  ·
   rw [<- spl_ht c r];simp only [List.map_cons, List.sum_cons, List.length_nil, List.length_cons] at ih ⊢;omega
  ·
   simp only [List.map_cons, List.sum_cons, List.length_cons] at ih ⊢;omega
theorem sum_mem {l : List Str} {x : Str} (h : x ∈ l) : x.length + 1 <= (l.map (fun x => x.length + 1)).sum := by
 induction l with
 | nil => simp at h
 | cons a r ih =>
  simp only [List.map_cons, List.sum_cons]
  rcases List.mem_cons.1 h with rfl | h
  ·
   omega
  ·
   have := ih h; omega
theorem spl_mem_len {x : Str} (h : x ∈ spl c l) : x.length <= l.length := by
 have h1 := sum_mem h;rw [spl_sum] at h1;omega
theorem spls_mem {s x : BA} (h : x ∈ spls c s) : x.size <= s.size := by
 obtain ⟨z, hz, rfl⟩ := List.mem_map.1 h;rw [Lib.size_eq, bs_data, Lib.size_eq];exact spl_mem_len hz
def RetItK (w : World) (o : Option It) (e : Ending) (w' : World) : Prop := ∃ NA nn nc MA mn mc x, e = .returned (.tuple #[.agg #[.slice NA nn nc, .slice MA mn mc, .bool (o.getD zIt).2.2], .bool o.isSome]) /\ w' = ext w x /\ OwT w.heap.size (ext w x) NA nn nc (o.getD zIt).1 /\ OwI w.heap.size (ext w x) MA mn mc (o.getD zIt).2.1 /\ (blkOf NA = none ∨ blkOf NA ≠ blkOf MA)
theorem RetItK.none_ {o : Option It} (h : o = none) (hb : Below w.heap.size w W) : RetItK w o (.returned (.tuple #[.agg #[.slice none 0 0, .slice none 0 0, .bool false], .bool false])) W := by
 subst h;obtain ⟨x, rfl⟩ := ext_ex hb;exact ⟨none, 0, 0, none, 0, 0, x, rfl, rfl, OwT.nil_, OwI.nil_, .inl rfl⟩
theorem RetItK.mk_ {o : Option It} {it : It} {R : Fam} {i j : Nat × Nat} {NA MA : OA} {nn nc mn mc : Nat} {lt : Bool} (h : o = some it) (hlt : lt = it.2.2) (hF : Fo b hi W R) (hij : i ≠ j) (e3 : R i = rowT NA nn nc it.1) (e4 : R j = rowI MA mn mc it.2.1) (hbase : w.heap.size <= b) (hb : Below w.heap.size w W) : RetItK w o (.returned (.tuple #[.agg #[.slice NA nn nc, .slice MA mn mc, .bool lt], .bool true])) W := by
 subst h hlt;obtain ⟨x, rfl⟩ := ext_ex hb;have hf := hF.free hij;rw [e3, e4] at hf;exact ⟨NA, nn, nc, MA, mn, mc, x, rfl, rfl, (hF.ownT e3).mono hbase, (hF.ownI e4).mono hbase, hf⟩
theorem sepW_cases (l : Str) : (l.getLast? = some 60 /\ sepW l = (l.dropLast, 1)) ∨ ((¬ l.getLast? = some 60 /\ l.getLast? = some 101) /\ sepW l = (l.dropLast, 2)) ∨ ((¬ l.getLast? = some 60 /\ ¬ l.getLast? = some 101 /\ l.getLast? = some 42) /\ sepW l = (l.dropLast, 3)) ∨ ((¬ l.getLast? = some 60 /\ ¬ l.getLast? = some 101 /\ ¬ l.getLast? = some 42) /\ sepW l = (l, 0)) := by
 unfold sepW;by_cases h1 : l.getLast? = some 60
 ·
  exact .inl ⟨h1, by rw [if_pos h1]⟩
 ·
  by_cases h2 : l.getLast? = some 101
  ·
   exact .inr (.inl ⟨⟨h1, h2⟩, by rw [if_neg h1, if_pos h2]⟩)
  ·
   by_cases h3 : l.getLast? = some 42
   ·
    exact .inr (.inr (.inl ⟨⟨h1, h2, h3⟩, by rw [if_neg h1, if_neg h2, if_pos h3]⟩))
   ·
    exact .inr (.inr (.inr ⟨⟨h1, h2, h3⟩, by rw [if_neg h1, if_neg h2, if_neg h3]⟩))
theorem parseItem_any (s : BA) (w : World) (hs : s.size <= 2000000) (hM : Mxl w) (hG : Sgn w) :
  Calls Tryz.prog 132 #[.string s] w (RetItK w (itR s.data.toList)) := by
 have hg := fun W (h : Below w.heap.size w W) => hG.below h
 have cx := fun W => Tryz.strings_CutSuffix s ⟨#[32, 120]⟩ W Om
 have hl2 : (⟨#[32, 120]⟩ : BA).data.toList = [32, 120] := rfl;simp only [hl2] at cx;have hcx := cutX_lib s.data.toList;have hx1 : Lib.trimSuffix s.data.toList [32, 120] = (cutX s.data.toList).1 := by rw [hcx]
 have hx2 : Lib.hasSuffix s.data.toList [32, 120] = (cutX s.data.toList).2 := by rw [hcx]
 rw [hx1, hx2] at cx;have htz : (cutX s.data.toList).1.length <= 2000000 := by
  rw [<- hx1];have h2 : (Lib.trimSuffix s.data.toList [32, 120]).length <= s.data.toList.length := by unfold Lib.trimSuffix; split <;> simp
  rw [<- Lib.size_eq] at h2; omega
 have HI := Lib.hid (itOf_def s.data.toList);have HN : Hid (nmsOf s.data.toList = ((spl 43 (cutX s.data.toList).1).map bs).map fun w => bs (sepW w.data.toList).1) := rfl;have HK : Hid (mksOf s.data.toList = ((spl 43 (cutX s.data.toList).1).map bs).map fun w => (sepW w.data.toList).2) := rfl;have csp := fun W h => split_any (⟨(cutX s.data.toList).1.toArray⟩ : BA) 43 W (by rw [Lib.size_eq]; simpa using htz) (hM.below h)
 have hspl : ∀ l : Str, spls 43 ⟨l.toArray⟩ = (spl 43 l).map bs := fun l => by unfold spls; simp
 have hwn : ((spl 43 (cutX s.data.toList).1).map bs).length <= 2000001 := by
  rw [List.length_map, spl_len];have := List.count_le_length (a := (43 : UInt8)) (l := (cutX s.data.toList).1);omega
 have hws : ∀ x ∈ (spl 43 (cutX s.data.toList).1).map bs, x.size <= 2000000 := fun x hx => by
  obtain ⟨z, hz, rfl⟩ := List.mem_map.1 hx;rw [Lib.size_eq, bs_data];exact Nat.le_trans (spl_mem_len hz) htz
 simp only [hspl] at csp;clear hcx hx1 hx2 hM hG hl2 hspl htz;generalize (cutX s.data.toList).2 = late at *;generalize (spl 43 (cutX s.data.toList).1).map bs = ws at *;generalize (cutX s.data.toList).1 = tl at *;go_enter Tryz.func132, Tryz.ntmps132;go_wp2_with (first | (go_at_call 184; (with_reducible refine (cx _).mono ?_); rintro e w' ⟨rfl, rfl⟩) | (go_at_call 54; ((with_reducible refine (csp _ bL).mono ?_); rintro e w' ⟨A1, n1, c1, x1, rfl, rfl, o1⟩)))
 have sz : ∀ (W : World) (o : Obj), (W.alloc o).heap.size = W.heap.size + 1 := fun W o => by simp [go_sem]
 have F1 := (Fo.nil_ (b := w.heap.size) (hi := w.heap.size) (w := w)).lit (j := (9, 1)) rfl (Nat.le_refl _) (Nat.le_refl _) 61 3 1 #[.slice none 0 0, .slice none 0 0, .bool false] rfl (by simp [maxLen]) [.slice none 0 0, .slice none 0 0, .bool false] rfl;have F2 := F1.lit (j := (3, 0)) (by simp [upd, famN]) (by simp only [sz]; omega) (by simp only [sz]; omega) 9 1 0 #[] rfl (by simp [maxLen]) [] rfl;have F3 := F2.lit (j := (4, 0)) (by simp [upd, famN]) (by simp only [sz]; omega) (by simp only [sz]; omega) 3 1 0 #[] rfl (by simp [maxLen]) [] rfl;have F4 := F3.lit (j := (9, 0)) (by simp [upd, famN]) (by simp only [sz]; omega) (by simp only [sz]; omega) 61 3 1 #[.slice (some ⟨w.heap.size + 1, 0, none⟩) 0 0, .slice (some ⟨w.heap.size + 1 + 1, 0, none⟩) 0 0, .bool late] rfl (by simp [maxLen]) _ rfl;have F5 := F4.addT (j := (9, 2)) (by simp [upd, famN]) (ext_below _ x1) (by simp only [sz]; omega) (by simp only [sz]; omega) (by simp only [sz]; omega) o1;clear F1 F2 F3 F4 o1;simp only [sz] at F5
 go_loopw [6, 7, 8, 9, 10, 23] (fun _ _ _ _ _ i wr => ∃ (k : Nat) (R : Fam) (NA MA : OA) (nc mc : Nat) (y : World), k <= n1 /\ i = .int .i64 k /\ wr = ext w y /\ Fo w.heap.size wr.heap.size wr R /\ R (9, 0) = ⟨61, 3, some ⟨w.heap.size + 1 + 1 + 1, 0, none⟩, 1, 1, [.slice NA k nc, .slice MA k mc, .bool late]⟩ /\ R (9, 1) = ⟨61, 3, some ⟨w.heap.size, 0, none⟩, 1, 1, [.slice none 0 0, .slice none 0 0, .bool false]⟩ /\ R (9, 2) = rowT A1 n1 c1 ws /\ R (3, 0) = rowT NA k nc ((ws.take k).map fun w => bs (sepW w.data.toList).1) /\ R (4, 0) = rowI MA k mc ((ws.take k).map fun w => (sepW w.data.toList).2)) (fun _ _ _ _ _ i _ => n1 - (intOf i).toNat)
 case atStart =>
  obtain ⟨y, hy⟩ := ext_ex (show Below w.heap.size w (ext ((((w.alloc (.cells #[.slice none 0 0, .slice none 0 0, .bool false] 61)).alloc (.cells #[] 9)).alloc (.cells #[] 3)).alloc (.cells #[.slice (some ⟨w.heap.size + 1, 0, none⟩) 0 0, .slice (some ⟨w.heap.size + 1 + 1, 0, none⟩) 0 0, .bool late] 61)) x1) from bL);refine ⟨0, _, some ⟨w.heap.size + 1, 0, none⟩, some ⟨w.heap.size + 1 + 1, 0, none⟩, 0, 0, y, Om, rfl, hy, F5, by simp [upd], by simp [upd], by simp [upd], by simp [upd, rowT], by simp [upd, rowI]⟩
 case round =>
  obtain ⟨k, R, NA, MA, nc, mc, y, hk, rfl, rfl, hF, e0, e1, e2, e3, e4⟩ := hrel;clear F5;have hwl := (hF.ownT e2).len;by_cases hlt : k < n1
  ·
   obtain ⟨b1, rfl, hb1, hb2⟩ := (hF.ownT e2).form_ Om;have hck := (hF.ownT e2).cell_ k hlt;have hsk := hws _ (getD_mem ByteArray.empty ws k Om);have h3 : ws.take (k + 1) = ws.take k ++ [ws[k]?.getD ByteArray.empty] := take_succ_getD ByteArray.empty ws k Om;have HT1 : Hid ((ws.take (k + 1)).map (fun w => bs (sepW w.data.toList).1) = (ws.take k).map (fun w => bs (sepW w.data.toList).1) ++ [bs (sepW (ws[k]?.getD ByteArray.empty).data.toList).1]) := by unfold Hid; rw [h3, List.map_append]; rfl
   have HT2 : Hid ((ws.take (k + 1)).map (fun w => (sepW w.data.toList).2) = (ws.take k).map (fun w => (sepW w.data.toList).2) ++ [(sepW (ws[k]?.getD ByteArray.empty).data.toList).2]) := by unfold Hid; rw [h3, List.map_append]; rfl
   clear h3;generalize (ws.take k).map (fun w => bs (sepW w.data.toList).1) = nms at *;generalize (ws.take k).map (fun w => (sepW w.data.toList).2) = mks at *;generalize ws[k]?.getD ByteArray.empty = word at *;have hgw := hg (ext w y) (ext_below w y);have g1 : (ext w y).cell? ⟨0, 1, none⟩ = some (.string ⟨#[60]⟩) := hgw.2 1 Om;have g2 : (ext w y).cell? ⟨0, 2, none⟩ = some (.string ⟨#[101]⟩) := hgw.2 2 Om;have g3 : (ext w y).cell? ⟨0, 3, none⟩ = some (.string ⟨#[42]⟩) := hgw.2 3 Om;obtain ⟨hb0, hf0⟩ := hF.cell e0 0 _ rfl;obtain ⟨hb1', hf1⟩ := hF.cell e0 1 _ rfl;obtain ⟨hb2', hf2⟩ := hF.cell e0 2 _ rfl;have cs1 := fun W => Tryz.strings_CutSuffix word ⟨#[60]⟩ W Om
   have cs2 := fun W => Tryz.strings_CutSuffix word ⟨#[101]⟩ W Om
   have cs3 := fun W => Tryz.strings_CutSuffix word ⟨#[42]⟩ W Om
   have hl1 : (⟨#[60]⟩ : BA).data.toList = [60] := rfl;have hl2 : (⟨#[101]⟩ : BA).data.toList = [101] := rfl;have hl3 : (⟨#[42]⟩ : BA).data.toList = [42] := rfl;simp only [hl1, hl2, hl3] at cs1 cs2 cs3
   rcases sepW_cases word.data.toList with ⟨hc, hv⟩ | ⟨hc, hv⟩ | ⟨hc, hv⟩ | ⟨hc, hv⟩
   ·
    rw [trimS1 hc, suf1, hc, beq_self_eq_true] at cs1;rw [hv] at HT1 HT2;generalize word.data.toList.dropLast = dl at *;clear hc hv cs2 cs3;have hkb : k <= 1099511627776 := Om;go_wp2;refine wp_loop_rounds 1 ?_;rw [rounds_succ];go_wp2_with (first | (go_at_call 184; (with_reducible refine (cs1 _).mono ?_); rintro e w' ⟨rfl, rfl⟩) | (go_at_call 184; (with_reducible refine (cs2 _).mono ?_); rintro e w' ⟨rfl, rfl⟩) | (go_at_call 184; (with_reducible refine (cs3 _).mono ?_); rintro e w' ⟨rfl, rfl⟩) | ((at_builtin; (refine wpl_push_strJ w _ _ _ ?_ rfl _ _ rfl NA k nc _ rfl (hF.ownT e3) ?_ ?_ rfl hkb ?_); (focus (first | rfl | (simp; done))); exact bL; exact bL; intro NA' nc' y1 ho1 hg1 hd1); have F1 := hF.grewT e3 hg1 ho1 hd1 (Nat.le_refl _); have e01 := (upd_ne R (rowT NA' (k + 1) nc' (nms ++ [⟨dl.toArray⟩])) (i := (9, 0)) (j := (3, 0)) (by decide)).trans e0; (obtain ⟨hb0, hf0⟩ := F1.cell e01 0 _ rfl); (obtain ⟨hb1', hf1⟩ := F1.cell e01 1 _ rfl); have F2 := F1.store e01 0 (.slice NA' (k + 1) nc'); have e42 := ((upd_ne (upd R (3, 0) (rowT NA' (k + 1) nc' (nms ++ [⟨dl.toArray⟩]))) ⟨61, 3, some ⟨w.heap.size + 1 + 1 + 1, 0, none⟩, 1, 1, [.slice NA' (k + 1) nc', .slice MA k mc, .bool late]⟩ (i := (4, 0)) (j := (9, 0)) (by decide)).trans (upd_ne R (rowT NA' (k + 1) nc' (nms ++ [⟨dl.toArray⟩])) (i := (4, 0)) (j := (3, 0)) (by decide))).trans e4; have hM2 := F2.ownI e42) | ((at_builtin; (refine wpl_push_int w _ _ _ ?_ rfl _ _ rfl MA k mc _ rfl hM2 ?_ ?_ rfl hkb ?_); (focus (first | rfl | (simp; done))); exact bL; exact bL; intro MA' mc' y2 ho2 hg2 hd2); have F3 := F2.grewI e42 hg2 ho2 hd2 (by simp [World.setCell]); have e03 := (upd_ne (upd (upd R (3, 0) (rowT NA' (k + 1) nc' (nms ++ [⟨dl.toArray⟩]))) (9, 0) ⟨61, 3, some ⟨w.heap.size + 1 + 1 + 1, 0, none⟩, 1, 1, [.slice NA' (k + 1) nc', .slice MA k mc, .bool late]⟩) (rowI MA' (k + 1) mc' (mks ++ [1])) (i := (9, 0)) (j := (4, 0)) (by decide)).trans (upd_same _ _ _); (obtain ⟨hb0, hf0⟩ := F3.cell e03 0 _ rfl); (obtain ⟨hb1', hf1⟩ := F3.cell e03 1 _ rfl)))
    have F4 := F3.store e03 1 (.slice MA' (k + 1) mc');have hsz : ((ext w y2).setCell ⟨w.heap.size + 1 + 1 + 1, 1, none⟩ (.slice MA' (k + 1) mc')).heap.size = (ext w y2).heap.size := by simp [World.setCell]
    obtain ⟨y3, hy3⟩ := ext_ex (show Below w.heap.size w ((ext w y2).setCell ⟨w.heap.size + 1 + 1 + 1, 1, none⟩ (.slice MA' (k + 1) mc')) from bL);rw [<- hsz] at F4;go_roundw
    case rel => exact ⟨k + 1, _, NA', MA', nc', mc', y3, Om, by go_num, hy3, F4, by simp [upd], by simp [upd, e1], by simp [upd, e2], by rw [HT1.out]; simp [upd, bs], by rw [HT2.out]; simp [upd]⟩
    case measure => simp [intOf]; omega
   ·
    rw [trimS0 hc.1, suf1, beq_eq_false_iff_ne.2 hc.1] at cs1;rw [trimS1 hc.2, suf1, hc.2, beq_self_eq_true] at cs2;rw [hv] at HT1 HT2;generalize word.data.toList.dropLast = dl at *;clear hc hv cs3;have hkb : k <= 1099511627776 := Om;go_wp2;refine wp_loop_rounds 2 ?_
    iterate 2 (rw [rounds_succ]; go_wp2_with (first | (go_at_call 184; (with_reducible refine (cs1 _).mono ?_); rintro e w' ⟨rfl, rfl⟩) | (go_at_call 184; (with_reducible refine (cs2 _).mono ?_); rintro e w' ⟨rfl, rfl⟩) | (go_at_call 184; (with_reducible refine (cs3 _).mono ?_); rintro e w' ⟨rfl, rfl⟩) | ((at_builtin; (refine wpl_push_strJ w _ _ _ ?_ rfl _ _ rfl NA k nc _ rfl (hF.ownT e3) ?_ ?_ rfl hkb ?_); (focus (first | rfl | (simp; done))); exact bL; exact bL; intro NA' nc' y1 ho1 hg1 hd1); have F1 := hF.grewT e3 hg1 ho1 hd1 (Nat.le_refl _); have e01 := (upd_ne R (rowT NA' (k + 1) nc' (nms ++ [⟨dl.toArray⟩])) (i := (9, 0)) (j := (3, 0)) (by decide)).trans e0; (obtain ⟨hb0, hf0⟩ := F1.cell e01 0 _ rfl); (obtain ⟨hb1', hf1⟩ := F1.cell e01 1 _ rfl); have F2 := F1.store e01 0 (.slice NA' (k + 1) nc'); have e42 := ((upd_ne (upd R (3, 0) (rowT NA' (k + 1) nc' (nms ++ [⟨dl.toArray⟩]))) ⟨61, 3, some ⟨w.heap.size + 1 + 1 + 1, 0, none⟩, 1, 1, [.slice NA' (k + 1) nc', .slice MA k mc, .bool late]⟩ (i := (4, 0)) (j := (9, 0)) (by decide)).trans (upd_ne R (rowT NA' (k + 1) nc' (nms ++ [⟨dl.toArray⟩])) (i := (4, 0)) (j := (3, 0)) (by decide))).trans e4; have hM2 := F2.ownI e42) | ((at_builtin; (refine wpl_push_int w _ _ _ ?_ rfl _ _ rfl MA k mc _ rfl hM2 ?_ ?_ rfl hkb ?_); (focus (first | rfl | (simp; done))); exact bL; exact bL; intro MA' mc' y2 ho2 hg2 hd2); have F3 := F2.grewI e42 hg2 ho2 hd2 (by simp [World.setCell]); have e03 := (upd_ne (upd (upd R (3, 0) (rowT NA' (k + 1) nc' (nms ++ [⟨dl.toArray⟩]))) (9, 0) ⟨61, 3, some ⟨w.heap.size + 1 + 1 + 1, 0, none⟩, 1, 1, [.slice NA' (k + 1) nc', .slice MA k mc, .bool late]⟩) (rowI MA' (k + 1) mc' (mks ++ [2])) (i := (9, 0)) (j := (4, 0)) (by decide)).trans (upd_same _ _ _); (obtain ⟨hb0, hf0⟩ := F3.cell e03 0 _ rfl); (obtain ⟨hb1', hf1⟩ := F3.cell e03 1 _ rfl))))
    have F4 := F3.store e03 1 (.slice MA' (k + 1) mc');have hsz : ((ext w y2).setCell ⟨w.heap.size + 1 + 1 + 1, 1, none⟩ (.slice MA' (k + 1) mc')).heap.size = (ext w y2).heap.size := by simp [World.setCell]
    obtain ⟨y3, hy3⟩ := ext_ex (show Below w.heap.size w ((ext w y2).setCell ⟨w.heap.size + 1 + 1 + 1, 1, none⟩ (.slice MA' (k + 1) mc')) from bL);rw [<- hsz] at F4;go_roundw
    case rel => exact ⟨k + 1, _, NA', MA', nc', mc', y3, Om, by go_num, hy3, F4, by simp [upd], by simp [upd, e1], by simp [upd, e2], by rw [HT1.out]; simp [upd, bs], by rw [HT2.out]; simp [upd]⟩
    case measure => simp [intOf]; omega
   ·
    rw [trimS0 hc.1, suf1, beq_eq_false_iff_ne.2 hc.1] at cs1;rw [trimS0 hc.2.1, suf1, beq_eq_false_iff_ne.2 hc.2.1] at cs2;rw [trimS1 hc.2.2, suf1, hc.2.2, beq_self_eq_true] at cs3;rw [hv] at HT1 HT2;generalize word.data.toList.dropLast = dl at *;clear hc hv;have hkb : k <= 1099511627776 := Om;go_wp2;refine wp_loop_rounds 3 ?_
    iterate 3 (rw [rounds_succ]; go_wp2_with (first | (go_at_call 184; (with_reducible refine (cs1 _).mono ?_); rintro e w' ⟨rfl, rfl⟩) | (go_at_call 184; (with_reducible refine (cs2 _).mono ?_); rintro e w' ⟨rfl, rfl⟩) | (go_at_call 184; (with_reducible refine (cs3 _).mono ?_); rintro e w' ⟨rfl, rfl⟩) | ((at_builtin; (refine wpl_push_strJ w _ _ _ ?_ rfl _ _ rfl NA k nc _ rfl (hF.ownT e3) ?_ ?_ rfl hkb ?_); (focus (first | rfl | (simp; done))); exact bL; exact bL; intro NA' nc' y1 ho1 hg1 hd1); have F1 := hF.grewT e3 hg1 ho1 hd1 (Nat.le_refl _); have e01 := (upd_ne R (rowT NA' (k + 1) nc' (nms ++ [⟨dl.toArray⟩])) (i := (9, 0)) (j := (3, 0)) (by decide)).trans e0; (obtain ⟨hb0, hf0⟩ := F1.cell e01 0 _ rfl); (obtain ⟨hb1', hf1⟩ := F1.cell e01 1 _ rfl); have F2 := F1.store e01 0 (.slice NA' (k + 1) nc'); have e42 := ((upd_ne (upd R (3, 0) (rowT NA' (k + 1) nc' (nms ++ [⟨dl.toArray⟩]))) ⟨61, 3, some ⟨w.heap.size + 1 + 1 + 1, 0, none⟩, 1, 1, [.slice NA' (k + 1) nc', .slice MA k mc, .bool late]⟩ (i := (4, 0)) (j := (9, 0)) (by decide)).trans (upd_ne R (rowT NA' (k + 1) nc' (nms ++ [⟨dl.toArray⟩])) (i := (4, 0)) (j := (3, 0)) (by decide))).trans e4; have hM2 := F2.ownI e42) | ((at_builtin; (refine wpl_push_int w _ _ _ ?_ rfl _ _ rfl MA k mc _ rfl hM2 ?_ ?_ rfl hkb ?_); (focus (first | rfl | (simp; done))); exact bL; exact bL; intro MA' mc' y2 ho2 hg2 hd2); have F3 := F2.grewI e42 hg2 ho2 hd2 (by simp [World.setCell]); have e03 := (upd_ne (upd (upd R (3, 0) (rowT NA' (k + 1) nc' (nms ++ [⟨dl.toArray⟩]))) (9, 0) ⟨61, 3, some ⟨w.heap.size + 1 + 1 + 1, 0, none⟩, 1, 1, [.slice NA' (k + 1) nc', .slice MA k mc, .bool late]⟩) (rowI MA' (k + 1) mc' (mks ++ [3])) (i := (9, 0)) (j := (4, 0)) (by decide)).trans (upd_same _ _ _); (obtain ⟨hb0, hf0⟩ := F3.cell e03 0 _ rfl); (obtain ⟨hb1', hf1⟩ := F3.cell e03 1 _ rfl))))
    have F4 := F3.store e03 1 (.slice MA' (k + 1) mc');have hsz : ((ext w y2).setCell ⟨w.heap.size + 1 + 1 + 1, 1, none⟩ (.slice MA' (k + 1) mc')).heap.size = (ext w y2).heap.size := by simp [World.setCell]
    obtain ⟨y3, hy3⟩ := ext_ex (show Below w.heap.size w ((ext w y2).setCell ⟨w.heap.size + 1 + 1 + 1, 1, none⟩ (.slice MA' (k + 1) mc')) from bL);rw [<- hsz] at F4;go_roundw
    case rel => exact ⟨k + 1, _, NA', MA', nc', mc', y3, Om, by go_num, hy3, F4, by simp [upd], by simp [upd, e1], by simp [upd, e2], by rw [HT1.out]; simp [upd, bs], by rw [HT2.out]; simp [upd]⟩
    case measure => simp [intOf]; omega
   ·
    rw [trimS0 hc.1, suf1, beq_eq_false_iff_ne.2 hc.1] at cs1;rw [trimS0 hc.2.1, suf1, beq_eq_false_iff_ne.2 hc.2.1] at cs2;rw [trimS0 hc.2.2, suf1, beq_eq_false_iff_ne.2 hc.2.2] at cs3;rw [hv] at HT1 HT2;rw [bs_of] at HT1;clear hc hv;have hkb : k <= 1099511627776 := Om;go_wp2;refine wp_loop_rounds 4 ?_
    iterate 4 (rw [rounds_succ]; go_wp2_with (first | (go_at_call 184; (with_reducible refine (cs1 _).mono ?_); rintro e w' ⟨rfl, rfl⟩) | (go_at_call 184; (with_reducible refine (cs2 _).mono ?_); rintro e w' ⟨rfl, rfl⟩) | (go_at_call 184; (with_reducible refine (cs3 _).mono ?_); rintro e w' ⟨rfl, rfl⟩) | ((at_builtin; (refine wpl_push_strJ w _ _ _ ?_ rfl _ _ rfl NA k nc _ rfl (hF.ownT e3) ?_ ?_ rfl hkb ?_); (focus (first | rfl | (simp; done))); exact bL; exact bL; intro NA' nc' y1 ho1 hg1 hd1); have F1 := hF.grewT e3 hg1 ho1 hd1 (Nat.le_refl _); have e01 := (upd_ne R (rowT NA' (k + 1) nc' (nms ++ [word])) (i := (9, 0)) (j := (3, 0)) (by decide)).trans e0; (obtain ⟨hb0, hf0⟩ := F1.cell e01 0 _ rfl); (obtain ⟨hb1', hf1⟩ := F1.cell e01 1 _ rfl); have F2 := F1.store e01 0 (.slice NA' (k + 1) nc'); have e42 := ((upd_ne (upd R (3, 0) (rowT NA' (k + 1) nc' (nms ++ [word]))) ⟨61, 3, some ⟨w.heap.size + 1 + 1 + 1, 0, none⟩, 1, 1, [.slice NA' (k + 1) nc', .slice MA k mc, .bool late]⟩ (i := (4, 0)) (j := (9, 0)) (by decide)).trans (upd_ne R (rowT NA' (k + 1) nc' (nms ++ [word])) (i := (4, 0)) (j := (3, 0)) (by decide))).trans e4; have hM2 := F2.ownI e42) | ((at_builtin; (refine wpl_push_int w _ _ _ ?_ rfl _ _ rfl MA k mc _ rfl hM2 ?_ ?_ rfl hkb ?_); (focus (first | rfl | (simp; done))); exact bL; exact bL; intro MA' mc' y2 ho2 hg2 hd2); have F3 := F2.grewI e42 hg2 ho2 hd2 (by simp [World.setCell]); have e03 := (upd_ne (upd (upd R (3, 0) (rowT NA' (k + 1) nc' (nms ++ [word]))) (9, 0) ⟨61, 3, some ⟨w.heap.size + 1 + 1 + 1, 0, none⟩, 1, 1, [.slice NA' (k + 1) nc', .slice MA k mc, .bool late]⟩) (rowI MA' (k + 1) mc' (mks ++ [0])) (i := (9, 0)) (j := (4, 0)) (by decide)).trans (upd_same _ _ _); (obtain ⟨hb0, hf0⟩ := F3.cell e03 0 _ rfl); (obtain ⟨hb1', hf1⟩ := F3.cell e03 1 _ rfl))))
    have F4 := F3.store e03 1 (.slice MA' (k + 1) mc');have hsz : ((ext w y2).setCell ⟨w.heap.size + 1 + 1 + 1, 1, none⟩ (.slice MA' (k + 1) mc')).heap.size = (ext w y2).heap.size := by simp [World.setCell]
    obtain ⟨y3, hy3⟩ := ext_ex (show Below w.heap.size w ((ext w y2).setCell ⟨w.heap.size + 1 + 1 + 1, 1, none⟩ (.slice MA' (k + 1) mc')) from bL);rw [<- hsz] at F4;go_roundw
    case rel => exact ⟨k + 1, _, NA', MA', nc', mc', y3, Om, by go_num, hy3, F4, by simp [upd], by simp [upd, e1], by simp [upd, e2], by rw [HT1.out]; simp [upd, bs], by rw [HT2.out]; simp [upd]⟩
    case measure => simp [intOf]; omega
  ·
   -- END OF ROUNDS
   obtain rfl : k = n1 := Om;have hnz : ∀ x ∈ ws.map (fun w => bs (sepW w.data.toList).1), x.size <= 9223372036854775807 := fun x hx => by
    obtain ⟨z, hz, rfl⟩ := List.mem_map.1 hx;have h1 := hws z hz;have h2 : (sepW z.data.toList).1.length <= z.data.toList.length := by
     rcases sepW_cases z.data.toList with ⟨_, hv⟩ | ⟨_, hv⟩ | ⟨_, hv⟩ | ⟨_, hv⟩ <;> rw [hv] <;> simp
    rw [Lib.size_eq, bs_data];rw [<- Lib.size_eq] at h2;omega
   rw [List.take_of_length_le Om] at e3 e4;rw [<- HN.out] at e3 hnz;rw [<- HK.out] at e4;have hN := (hF.ownT e3).rd;have hMk := (hF.ownI e4).rd;have ci := fun W (h : Below (ext w y).heap.size (ext w y) W) => isItem_any W NA MA k nc k mc (nmsOf s.data.toList) (mksOf s.data.toList) late (hN.below h) (hMk.below h) Om Om hnz
   obtain ⟨hb0, hf0⟩ := hF.cell e0 0 _ rfl;obtain ⟨hb1', hf1⟩ := hF.cell e0 1 _ rfl;obtain ⟨hb2', hf2⟩ := hF.cell e0 2 _ rfl;have hr0 := fun y2 => ((hF.below' (ext_below _ y2) (Nat.le_refl _)).cell e1 0 _ rfl).1
   have hz0 := fun y2 => ((hF.below' (ext_below _ y2) (Nat.le_refl _)).cell e1 0 _ rfl).2
   have hq0 := fun y2 => ((hF.below' (ext_below _ y2) (Nat.le_refl _)).cell e0 0 _ rfl).1
   have hr1 := fun y2 => ((hF.below' (ext_below _ y2) (Nat.le_refl _)).cell e1 1 _ rfl).1
   have hz1 := fun y2 => ((hF.below' (ext_below _ y2) (Nat.le_refl _)).cell e1 1 _ rfl).2
   have hq1 := fun y2 => ((hF.below' (ext_below _ y2) (Nat.le_refl _)).cell e0 1 _ rfl).1
   have hr2 := fun y2 => ((hF.below' (ext_below _ y2) (Nat.le_refl _)).cell e1 2 _ rfl).1
   have hz2 := fun y2 => ((hF.below' (ext_below _ y2) (Nat.le_refl _)).cell e1 2 _ rfl).2
   have hq2 := fun y2 => ((hF.below' (ext_below _ y2) (Nat.le_refl _)).cell e0 2 _ rfl).1
   have HB : Hid (itR s.data.toList = if itemB (nmsOf s.data.toList, mksOf s.data.toList, late) then some (nmsOf s.data.toList, mksOf s.data.toList, late) else none) := by unfold Hid itR; rw [HI.out]
   clear hN hMk hnz HI HN HK hg hws hwn hwl
   cases hq : itemB (nmsOf s.data.toList, mksOf s.data.toList, late)
   ·
    rw [hq] at HB ci;have HB2 : Hid (itR s.data.toList = none) := HB.out;clear HB hq;go_wp2_with ((go_at_call 185; ((with_reducible refine ex (ci _ bL) ?_); intro y2)))
    refine bodyPost_ret (v := .tuple #[.agg #[.slice none 0 0, .slice none 0 0, .bool false], .bool false]) (by simp [results, Tryz.results132, go_sem, hr0, hr1, hr2]) rfl ?_;exact RetItK.none_ HB2.out bL
   ·
    rw [hq] at HB ci;have HB2 : Hid (itR s.data.toList = some (nmsOf s.data.toList, mksOf s.data.toList, late)) := HB.out;clear HB hq;go_wp2_with ((go_at_call 185; ((with_reducible refine ex (ci _ bL) ?_); intro y2)))
    refine bodyPost_ret (v := .tuple #[.agg #[.slice NA k nc, .slice MA k mc, .bool late], .bool true]) (by simp [results, Tryz.results132, go_sem, hr0, hr1, hr2]) rfl ?_;have G0 := hF.below' (ext_below _ y2) (Nat.le_refl _);have G3 := ((G0.store e1 0 (.slice NA k nc)).store (upd_same _ _ _) 1 (.slice MA k mc)).store (upd_same _ _ _) 2 (.bool late);exact RetItK.mk_ (i := (3, 0)) (j := (4, 0)) HB2.out rfl G3 (by decide) (by simp [upd, e3]) (by simp [upd, e4]) (Nat.le_refl _) bL
section
variable {b hi hi' : Nat} {w w' : World} {R : Fam} {j : Nat × Nat} {r : Rw}
theorem Fo.putF (h : Fo b hi w R) (hg : w.grownBy w' (blkOf (R j).A)) (ho : r.own b w') (hfree : ∀ i, i ≠ j -> blkOf r.A = none ∨ blkOf r.A ≠ blkOf (R i).A) (hh : hi <= hi') (hz : ∀ z, blkOf r.A = some z -> z < hi') : Fo b hi' w' (upd R j r) := by
 refine ⟨fun i => ?_, fun i k hik => ?_, fun i z hi => ?_⟩
 ·
  by_cases e : i = j
  ·
   subst e; rw [upd_same]; exact ho
  ·
   rw [upd_ne R r e]; exact (h.1 i).kept hg (h.2.1 i j e)
 ·
  by_cases e : i = j
  ·
   subst e;rw [upd_same, upd_ne R r (fun e => hik e.symm)];exact hfree k (fun e => hik e.symm)
  ·
   rw [upd_ne R r e];by_cases e2 : k = j
   ·
    subst e2;rw [upd_same]
    rcases hfree i e with hn | hn
    ·
     rw [hn]
     cases blkOf (R i).A with
     | none => exact .inl rfl
     | some z => exact .inr (by simp)
    ·
     exact .inr fun e3 => hn e3.symm
   ·
    rw [upd_ne R r e2]; exact h.2.1 i k hik
 ·
  by_cases e : i = j
  ·
   subst e; rw [upd_same] at hi; exact hz z hi
  ·
   rw [upd_ne R r e] at hi; have := h.2.2 i z hi; omega
theorem Fo.add2 {i : Nat × Nat} {r2 : Rw} (h : Fo b hi w R) (hij : i ≠ j) (hn : R j = rowN) (hn2 : R i = rowN) (hb : Below w.heap.size w w') (hw : hi <= w.heap.size) {b' : Nat} (hb' : hi <= b') (hbb : b <= b') (ho : r.own b' w') (ho2 : r2.own b' w') (hne : blkOf r.A = none ∨ blkOf r.A ≠ blkOf r2.A) : Fo b w'.heap.size w' (upd (upd R j r) i r2) := by
 have h1 := h.add (r := r) hn hb hw hb' hbb ho (Nat.le_refl _);refine h1.putF (by rw [upd_ne _ _ hij, hn2]; exact World.grownBy.refl _ _) (Ow.mono ho2 hbb) (fun k hk => ?_) (Nat.le_refl _) (fun z hz => (Ow.blk ho2 hz).2);by_cases e : k = j
 ·
  subst e;rw [upd_same]
  rcases hne with hne | hne
  ·
   rw [hne]
   cases blkOf r2.A with
   | none => exact .inl rfl
   | some z => exact .inr (by simp)
  ·
   exact .inr fun e => hne e.symm
 ·
  rw [upd_ne _ _ e]
  cases hz : blkOf r2.A with
  | none => exact .inl rfl
  | some z => exact .inr fun e => by have := h.2.2 k z e.symm; have := (Ow.blk ho2 hz).1; omega
end
theorem szOf {a : World} (h : Below a.heap.size a w) : a.heap.size <= w.heap.size := h.size
theorem spn_ne (c : UInt8) : ∀ (k : Nat) (l : Str), 1 <= (spn c k l).length
 | 0, l => by simp [spn]
 | k + 1, l => by
  unfold spn
  cases Lib.index l [c] with
  | ofNat i => simp
  | negSucc i => simp
theorem spn_le (c : UInt8) : ∀ (k : Nat) (l : Str), (spn c k l).length <= k + 1
 | 0, l => by simp [spn]
 | k + 1, l => by
  unfold spn
  cases Lib.index l [c] with
  | ofNat i => simp only [List.length_cons]; have := spn_le c k (l.drop (i + 1)); omega
  | negSucc i => simp
theorem spn_mem_len {c : UInt8} : ∀ {k : Nat} {l x : Str}, x ∈ spn c k l -> x.length <= l.length
 | 0, l, x, h => by simp [spn] at h; subst h; exact Nat.le_refl _
 | k + 1, l, x, h => by
  unfold spn at h
  cases hi : Lib.index l [c] with
  | ofNat i =>
   rw [hi] at h
   rcases List.mem_cons.1 h with rfl | h
   ·
    rw [List.length_take]; exact Nat.min_le_right _ _
   ·
    have := spn_mem_len h;rw [List.length_drop] at this; omega
  | negSucc i =>
   rw [hi] at h;simp at h; subst h; exact Nat.le_refl _
theorem itLn_at (s : BA) : itLn s.data.toList = if (spns s).length = 5 then itR ((spns s)[(spns s).length - 1]?.getD ByteArray.empty).data.toList else none := by
 unfold itLn spns;rw [List.length_map];have h1 := spn_ne 32 4 s.data.toList;have e : (((spn 32 4 s.data.toList).map bs)[(spn 32 4 s.data.toList).length - 1]?.getD ByteArray.empty).data.toList = (spn 32 4 s.data.toList).getLast?.getD [] := by
  rw [List.getElem?_map, List.getLast?_eq_getElem?];have : (spn 32 4 s.data.toList).length - 1 < (spn 32 4 s.data.toList).length := Om;rw [List.getElem?_eq_getElem this];simp [bs]
 rw [e]
theorem spns_mem {s x : BA} (h : x ∈ spns s) : x.size <= s.size := by
 obtain ⟨z, hz, rfl⟩ := List.mem_map.1 h;rw [Lib.size_eq, bs_data, Lib.size_eq];exact spn_mem_len hz
def RetItsK (w : World) (o : Option (List It)) (e : Ending) (w' : World) : Prop := ∃ I n c x R, e = .returned (.tuple #[.slice I n c, .bool o.isSome]) /\ w' = ext w x /\ Fo w.heap.size (ext w x).heap.size (ext w x) R /\ ItF R I n c (o.getD [])
def famI : Fam := upd famN (0, 0) ⟨61, 3, none, 0, 0, []⟩
theorem famI_fo : Fo b hi w famI := by
 refine (Fo.nil_ (b := b) (hi := hi) (w := w)).putF (World.grownBy.refl _ _) Ow.nil_ (fun _ _ => .inl rfl) (Nat.le_refl _) (fun z hz => by cases hz)
theorem ItF.nil_ : ItF famI none 0 0 [] := ⟨rfl, ⟨[], rfl, by simp [famI, upd]; rfl, fun j hj => absurd hj Om⟩, fun j _ => by simp [famI, upd, famN]⟩
theorem RetItsK.none_ {o : Option (List It)} (h : o = none) (hb : Below w.heap.size w W) : RetItsK w o (.returned (.tuple #[.slice none 0 0, .bool false])) W := by
 subst h;obtain ⟨x, rfl⟩ := ext_ex hb;exact ⟨none, 0, 0, x, famI, rfl, rfl, famI_fo, ItF.nil_⟩
theorem RetItsK.mk_ {o : Option (List It)} {its : List It} {R : Fam} {I : OA} {c : Nat} (h : o = some its) (hF : Fo b hi W R) (hI : ItF R I n c its) (hbase : w.heap.size <= b) (hhi : hi <= W.heap.size) (hb : Below w.heap.size w W) : RetItsK w o (.returned (.tuple #[.slice I n c, .bool true])) W := by
 subst h;obtain ⟨x, rfl⟩ := ext_ex hb;exact ⟨I, n, c, x, R, rfl, rfl, hF.mono hbase hhi, hI⟩
theorem readItems_any (w : World) (A : OA) (n c : Nat) (ls : List BA) (ha : RdT w A n ls) (hn : n <= 2000000) (hsz : ∀ s ∈ ls, s.size <= 2000000) (hM : Mxl w) (hG : Sgn w) :
  Calls Tryz.prog 89 #[.slice A n c] w (RetItsK w (oAll itLn (ls.map (·.data.toList)))) := by
 have Hl := Lib.hid ha.len;have hM' := fun W (h : Below w.heap.size w W) => hM.below h
 have hG' := fun W (h : Below w.heap.size w W) => hG.below h
 clear hM hG;go_enter Tryz.func89, Tryz.ntmps89;go_wp2
 go_loopw [4, 6, 7, 8, 9, 13] (fun t _ _ _ _ i wr => ∃ (k : Nat) (R : Fam) (I : OA) (dc : Nat) (its : List It) (y : World), k <= n /\ i = .int .i64 k /\ t = .slice I k dc /\ wr = ext w y /\ Fo w.heap.size wr.heap.size wr R /\ ItF R I k dc its /\ Hid (oAll itLn ((ls.take k).map (·.data.toList)) = some its)) (fun _ _ _ _ _ i _ => n - (intOf i).toNat)
 case atStart =>
  obtain ⟨y, hy⟩ := ext_ex (show Below w.heap.size w (w.alloc (.cells #[] 61)) from bL);have F1 := (Fo.nil_ (b := w.heap.size) (hi := w.heap.size) (w := w)).lit (j := (0, 0)) rfl (Nat.le_refl _) (Nat.le_refl _) 61 3 0 #[] rfl (by simp [maxLen]) [] rfl;exact ⟨0, _, _, 0, [], y, Om, rfl, rfl, hy, F1.mono (Nat.le_refl _) Sg, ⟨rfl, ⟨[], rfl, by rw [upd_same]; rfl, fun j hj => absurd hj Om⟩, fun j _ => by simp [upd, famN]⟩, rfl⟩
 case round =>
  obtain ⟨k, R, I, dc, its, y, hk, rfl, rfl, rfl, hF, hI, HO⟩ := hrel;by_cases hlt : k < n
  ·
   obtain ⟨b, off, rfl, hb, hc⟩ := ha.open_ Om;have hck := hc k hlt;have hlk : k < ls.length := by rw [Hl.out]; exact hlt
   have hs := hsz _ (getD_mem ByteArray.empty ls k hlk);have HT := Lib.hid (take_map_succ ls k hlk);have HM : Hid ((ls[k]?.getD ByteArray.empty).data.toList ∈ ls.map (·.data.toList)) := List.mem_map_of_mem (getD_mem ByteArray.empty ls k hlk);have hkb : k <= 1099511627776 := Om;have HL := Lib.hid (itLn_at (ls[k]?.getD ByteArray.empty));clear hc hsz;generalize ls[k]?.getD ByteArray.empty = line at *;have csp := fun W (h : Below w.heap.size w W) => splitN_any line W hs (hM' W h)
   have hpos : 1 <= (spns line).length := by unfold spns; rw [List.length_map]; exact spn_ne _ _ _
   have hb5 : (spns line).length <= 1099511627776 := by
    have h9 : (spns line).length = (spn 32 4 line.data.toList).length := by unfold spns; rw [List.length_map]
    have := spn_le 32 4 line.data.toList;omega
   have hm1 : (spns line).length - 1 < (spns line).length := Om;have hlz : ((spns line)[(spns line).length - 1]?.getD ByteArray.empty).size <= 2000000 := Nat.le_trans (spns_mem (getD_mem ByteArray.empty _ _ hm1)) hs;generalize hWL : spns line = WL at *;obtain ⟨m, hm⟩ : ∃ m, WL.length = m := ⟨_, rfl⟩;rw [hm] at HL hpos hb5 hlz hm1;have cpi := fun W (h : Below w.heap.size w W) => parseItem_any (WL[m - 1]?.getD ByteArray.empty) W hlz (hM' W h) (hG' W h)
   have e1 : IntKind.i64.wrap ((m : Int) - 1) = ((m - 1 : Nat) : Int) := by rw [IntWalk.i64_in _ Om]; omega
   have Hm := Lib.hid hm;obtain ⟨o, ho⟩ : ∃ o, itR (WL[m - 1]?.getD ByteArray.empty).data.toList = o := ⟨_, rfl⟩;rw [ho] at HL cpi;clear hWL hm ho hlz hs;by_cases h5 : m = 5
   ·
    subst h5;rw [if_pos rfl] at HL;have hcp2 : WL[5 - 1]?.getD ByteArray.empty = WL[4]?.getD ByteArray.empty := rfl;rw [hcp2] at cpi;clear hcp2
    cases o with
    | none =>
     unfold RetItK at cpi;simp only [Option.isSome_none, Option.getD_none] at cpi;have HE : Hid (oAll itLn (ls.map (·.data.toList)) = none) := oAll_none HL.out HM.out;clear HO HT HM HL hI;go_wp2_with (first | (go_at_call 131; ((with_reducible refine (csp _ bL).mono ?_); rintro e w' ⟨A1, n1, c1, x1, rfl, rfl, r1⟩; (obtain rfl : n1 = 5 := r1.len.symm.trans Hm.out); (obtain ⟨b1, of1, rfl, hb1, hc1⟩ := r1.open_ Om); have hck1 := hc1 4 Om; generalize WL[4]?.getD ByteArray.empty = lst at *; clear hc1)) | (go_at_call 132; ((with_reducible refine (cpi _ bL).mono ?_); rintro e w' ⟨NA, nn, nc, MA, mn, mc, x2, rfl, rfl, oN, oM, hne⟩)) | (at_builtin; (refine wpl_push_item w _ _ _ _ ?_ _ ?_ rfl _ _ rfl I k dc _ rfl (Nat.le_refl _) ?_ hOwn ?_ ?_ rfl hkb ?_); (focus (exact ⟨rfl, rfl, rfl⟩)); (focus (first | rfl | (simp; done))); (focus (refine szOf ?_; exact bL)); exact bL; exact bL; intro I' c' y' ho' hg' hd'))
     go_ret2;exact RetItsK.none_ HE.out bL
    | some it =>
     unfold RetItK at cpi;simp only [Option.isSome_some, Option.getD_some] at cpi;obtain ⟨xs, e0, _⟩ := hI.push it (none) 0 0 none 0 0;have hOwn := hF.at_ e0;have hz := hI.2.2 k (Nat.le_refl _);have HN : Hid (oAll itLn ((ls.take (k + 1)).map (·.data.toList)) = some (its ++ [it])) := by unfold Hid; rw [HT.out]; exact oAll_snoc HL.out HO.out
     clear HO HT HM HL;go_wp2_with (first | (go_at_call 131; ((with_reducible refine (csp _ bL).mono ?_); rintro e w' ⟨A1, n1, c1, x1, rfl, rfl, r1⟩; (obtain rfl : n1 = 5 := r1.len.symm.trans Hm.out); (obtain ⟨b1, of1, rfl, hb1, hc1⟩ := r1.open_ Om); have hck1 := hc1 4 Om; generalize WL[4]?.getD ByteArray.empty = lst at *; clear hc1)) | (go_at_call 132; ((with_reducible refine (cpi _ bL).mono ?_); rintro e w' ⟨NA, nn, nc, MA, mn, mc, x2, rfl, rfl, oN, oM, hne⟩)) | (at_builtin; (refine wpl_push_item w _ _ _ _ ?_ _ ?_ rfl _ _ rfl I k dc _ rfl (Nat.le_refl _) ?_ hOwn ?_ ?_ rfl hkb ?_); (focus (exact ⟨rfl, rfl, rfl⟩)); (focus (first | rfl | (simp; done))); (focus (refine szOf ?_; exact bL)); exact bL; exact bL; intro I' c' y' ho' hg' hd'))
     obtain ⟨xs2, e02, hpush⟩ := hI.push it NA nn nc MA mn mc;have hxs : xs2 = xs := by rw [e0] at e02; injection e02 with _ _ _ _ _ h; exact h.symm
     subst hxs;have F1 := hF.below' (ext_below _ x1) (Nat.le_refl _);have F2 := F1.add2 (j := (3, k)) (i := (4, k)) (r := rowT NA nn nc it.1) (r2 := rowI MA mn mc it.2.1) (by simp) hz.1 hz.2 (ext_below _ x2) (Nat.le_refl _) (Nat.le_refl _) (Nat.le_trans (ext_le w y) (ext_le _ _)) oN oM hne;have F3 := (F2.below' (bAlloc bR (.cells #[.slice NA nn nc, .slice MA mn mc, .bool it.2.2] 61)) (Nat.le_refl _)).grew (j := (0, 0)) (by rw [upd_ne _ _ (by simp), upd_ne _ _ (by simp)]; exact e0) hg' ho' hd' (Nat.le_refl _);go_roundw
     case rel => exact ⟨k + 1, _, I', c', its ++ [it], y', Om, by go_num, rfl, rfl, F3, hpush I' c', HN⟩
     case measure => simp [intOf]; omega
   ·
    have h5B : ((m : Int) == 5) = false := by simp; omega
    have h5I : ¬ (m : Int) = 5 := Om;rw [if_neg h5] at HL;clear h5;unfold RetItK at cpi;generalize o.isSome = ok at *;generalize o.getD zIt = it0 at *;have HE : Hid (oAll itLn (ls.map (·.data.toList)) = none) := oAll_none HL.out HM.out;clear HO HT HM HL hI;go_wp2_with (first | (go_at_call 131; ((with_reducible refine (csp _ bL).mono ?_); rintro e w' ⟨A1, n1, c1, x1, rfl, rfl, r1⟩; (obtain rfl : n1 = m := r1.len.symm.trans Hm.out); (obtain ⟨b1, of1, rfl, hb1, hc1⟩ := r1.open_ Om); have hck1 := hc1 (n1 - 1) Om; generalize WL[(n1 - 1)]?.getD ByteArray.empty = lst at *; clear hc1)) | (go_at_call 132; ((with_reducible refine (cpi _ bL).mono ?_); rintro e w' ⟨NA, nn, nc, MA, mn, mc, x2, rfl, rfl, oN, oM, hne⟩)) | (at_builtin; (refine wpl_push_item w _ _ _ _ ?_ _ ?_ rfl _ _ rfl I k dc _ rfl (Nat.le_refl _) ?_ hOwn ?_ ?_ rfl hkb ?_); (focus (exact ⟨rfl, rfl, rfl⟩)); (focus (first | rfl | (simp; done))); (focus (refine szOf ?_; exact bL)); exact bL; exact bL; intro I' c' y' ho' hg' hd'))
    go_ret2;exact RetItsK.none_ HE.out bL
  ·
   obtain rfl : k = n := Om;have HN : Hid (oAll itLn (ls.map (·.data.toList)) = some its) := by unfold Hid; have := HO.out; rwa [List.take_of_length_le (by rw [Hl.out]; exact Nat.le_refl _)] at this
   go_wp2;go_ret2;exact RetItsK.mk_ HN.out hF hI (Nat.le_refl _) (Nat.le_refl _) bL
theorem RdT.drop_ {off : Nat} {l : List BA} (h : RdT w (some ⟨b, off, none⟩) n l) (k : Nat) (hk : k <= n) : RdT w (some ⟨b, off + k, none⟩) (n - k) (l.drop k) := by
 have hl := h.len;refine ⟨by simp; omega, fun hn => ?_⟩;obtain ⟨b2, off2, e, hlt, hc⟩ := h.2 Om;injection e with e;injection e with e1 e2;subst e1 e2;refine ⟨b, off + k, rfl, hlt, fun j u hu => ?_⟩;have := hc (k + j) u (by rw [<- hu, List.map_drop, List.getElem?_drop]);rw [<- Nat.add_assoc] at this;exact this
theorem RdT.take_ {A : OA} {l : List BA} (h : RdT w A n l) (k : Nat) (hk : k <= n) : RdT w A k (l.take k) := by
 have := Rd.take_ h k hk;rw [Nat.mul_one, <- List.map_take] at this;exact this
theorem mem_drop_sz {P : ByteArray -> Prop} {l : List BA} (h : ∀ s ∈ l, P s) (k : Nat) : ∀ s ∈ l.drop k, P s := fun s hs => h s (List.mem_of_mem_drop hs)
def RetWN (w : World) (hd : BA) (l : List Int) (ok : Bool) (e : Ending) (w' : World) : Prop := ∃ A n c x, e = .returned (.tuple #[.string hd, .slice A n c, .bool ok]) /\ w' = ext w x /\ OwI w.heap.size (ext w x) A n c l
theorem RetWN.mk_ {base : Nat} {hd : BA} {A : OA} {c : Nat} {l : List Int} {ok ok' : Bool} (ho : OwI base W A n c l) (hk : ok' = ok) (hbase : w.heap.size <= base) (hb : Below w.heap.size w W) : RetWN w hd l ok (.returned (.tuple #[.string hd, .slice A n c, .bool ok'])) W := by
 subst hk;obtain ⟨x, rfl⟩ := ext_ex hb;exact ⟨A, n, c, x, rfl, rfl, ho.mono hbase⟩
theorem wordsAndNumbers_any (line : BA) (num : Int) (w : World) (hs : line.size <= 1999999) (hM : Mxl w) :
  Calls Tryz.prog 88 #[.string line, .int .i64 num] w (RetWN w ((spls 32 line)[0]?.getD ByteArray.empty) (intsO ((spls 32 line).drop 1)) (intsK ((spls 32 line).drop 1) && decide (((intsO ((spls 32 line).drop 1)).length : Int) = num))) := by
 have csp := fun W h => split_any line 32 W Om (hM.below h)
 have hpos := spls_pos 32 line;have hbd := spls_bd 32 line;have hsz : ∀ x ∈ spls 32 line, x.size <= 2000000 := fun x hx => Nat.le_trans (spls_mem hx) Om
 generalize spls 32 line = WL at *;have hsz2 := mem_drop_sz hsz 1;generalize hT : WL.drop 1 = T at *;have HT := Lib.hid hT;have HW : Hid (WL[0]?.getD ByteArray.empty = WL[0]?.getD ByteArray.empty) := rfl;generalize hw0 : WL[0]?.getD ByteArray.empty = w0 at *;have HW := Lib.hid hw0;generalize hO : intsO T = lo at *;have HO := Lib.hid hO;clear hM hT hw0;have cin := fun (A : OA) (n c : Nat) (W : World) (h1 : RdT W A n T) (h2 : n <= 2000000) => integersIn_any W A n c T h1 h2 hsz2
 rw [hO] at cin;clear hO
 cases hK : intsK T
 all_goals
  rw [hK] at cin;clear hK;go_enter Tryz.func88, Tryz.ntmps88;go_wp2_with (first | (go_at_call 54; ((with_reducible refine (csp _ bL).mono ?_); rintro e w' ⟨A1, n1, c1, x1, rfl, rfl, o1⟩; (have hl1 := o1.len); (obtain ⟨b1, rfl, hb1, hb2⟩ := o1.form_ Om); (have hc0 := o1.cell_ 0 Om); (rw [HW.out] at hc0); (have hcap := o1.cap_); (have hr1 := o1.rd.drop_ 1 Om); (rw [HT.out, Nat.zero_add] at hr1); (have hr0 : c1 = 1 -> RdT (ext w x1) (some ⟨b1, 0, none⟩) (n1 - 1) T := fun e => ⟨by have := hr1.len; simpa using this, fun h => absurd h Om⟩); (have h1n : 1 <= n1 := Om); (have h1I : (1 : Int) <= n1 := Om))) | (go_at_call 130; ((with_reducible refine (cin _ _ _ _ hr1 Om).mono ?_); rintro e w' ⟨A2, n2, c2, x2, rfl, rfl, o2⟩)) | (go_at_call 130; ((with_reducible refine (cin _ _ _ _ (hr0 (by assumption)) Om).mono ?_); rintro e w' ⟨A2, n2, c2, x2, rfl, rfl, o2⟩)))
  all_goals
   have hl2 := Lib.hid o2.len;refine bodyPost_ret (v := .tuple #[.string w0, .slice A2 n2 c2, .bool _]) (by simp [results, Tryz.results88, go_sem]; rfl) rfl ?_;exact RetWN.mk_ o2 (by rw [hl2.out]; first | rfl | simp) (ext_le _ _) bL
def RetSlK (w : World) (o : Option SL) (e : Ending) (w' : World) : Prop := e = .returned (.tuple #[.agg #[.int .i64 (o.getD (0, 0, 0)).1, .int .i64 (o.getD (0, 0, 0)).2.1, .int .i64 (o.getD (0, 0, 0)).2.2], .bool o.isSome]) /\ ∃ x, w' = ext w x
theorem RetSlK.none_ {o : Option SL} (h : o = none) (hb : Below w.heap.size w W) : RetSlK w o (.returned (.tuple #[.agg #[.int .i64 0, .int .i64 0, .int .i64 0], .bool false])) W := by
 subst h;exact ⟨rfl, ext_ex hb⟩
theorem RetSlK.mk_ {o : Option SL} {a b c : Int} (h : o = some (a, b, c)) (hb : Below w.heap.size w W) : RetSlK w o (.returned (.tuple #[.agg #[.int .i64 a, .int .i64 b, .int .i64 c], .bool true])) W := by
 subst h;exact ⟨rfl, ext_ex hb⟩
theorem slR_no {s : Str} (h : oAll intR (spl 32 s) = none) : slR s = none := by unfold slR; rw [h]
theorem slR_len {s : Str} {l : List Int} (h : oAll intR (spl 32 s) = some l) (hl : l.length ≠ 3) : slR s = none := by
 unfold slR; rw [h]
 match l, hl with
 | [], _ => rfl
 | [_], _ => rfl
 | [_, _], _ => rfl
 | [_, _, _], h => exact absurd rfl h
 | _ :: _ :: _ :: _ :: _, _ => rfl
theorem parseSlips_any (s : BA) (w : World) (hs : s.size <= 1999999) (hM : Mxl w) :
  Calls Tryz.prog 93 #[.string s] w (RetSlK w (slR s.data.toList)) := by
 have csp := fun W h => split_any s 32 W Om (hM.below h)
 have hbd := spls_bd 32 s;have hsz : ∀ x ∈ spls 32 s, x.size <= 2000000 := fun x hx => Nat.le_trans (spls_mem hx) Om
 have hO : oAll intR ((spls 32 s).map (·.data.toList)) = oAll intR (spl 32 s.data.toList) := by rw [spls_data]
 have cin := fun (A : OA) (n c : Nat) (W : World) (h1 : RdT W A n (spls 32 s)) (h2 : n <= 2000000) => integersIn_any W A n c _ h1 h2 hsz
 unfold intsO intsK at cin;rw [hO] at cin;generalize spls 32 s = WL at *;clear hM hO hsz
 cases hr : oAll intR (spl 32 s.data.toList) with
 | none =>
  have HE := Lib.hid (slR_no hr);rw [hr] at cin;clear hr;simp only [Option.isSome_none, Option.getD_none] at cin;go_enter Tryz.func93, Tryz.ntmps93;go_wp2_with (first | (go_at_call 54; ((with_reducible refine (csp _ bL).mono ?_); rintro e w' ⟨A1, n1, c1, x1, rfl, rfl, o1⟩; (have hl1 := o1.len); (have hr1 := o1.rd))) | (go_at_call 130; ((with_reducible refine (cin _ _ _ _ hr1 Om).mono ?_); rintro e w' ⟨A2, n2, c2, x2, rfl, rfl, o2⟩)))
  refine bodyPost_ret (v := .tuple #[.agg #[.int .i64 0, .int .i64 0, .int .i64 0], .bool false]) (by simp [results, Tryz.results93, go_sem]) rfl ?_;exact RetSlK.none_ HE.out bL
 | some l =>
  rw [hr] at cin;simp only [Option.isSome_some, Option.getD_some] at cin;by_cases hl : l.length = 3
  ·
   match l, hl with
   | [a, b, c], _ =>
    have HV : Hid (slR s.data.toList = if slipB a b c then some (a, b, c) else none) := by unfold Hid slR; rw [hr]
    clear hr hl;have csl := fun W => areSlips_any a b c W
    cases hq : slipB a b c
    ·
     rw [hq] at csl HV;have HV := Lib.hid (show slR s.data.toList = none from HV.out);clear hq;go_enter Tryz.func93, Tryz.ntmps93;go_wp2_with (first | (go_at_call 54; ((with_reducible refine (csp _ bL).mono ?_); rintro e w' ⟨A1, n1, c1, x1, rfl, rfl, o1⟩; (have hl1 := o1.len); (have hr1 := o1.rd))) | (go_at_call 130; ((with_reducible refine (cin _ _ _ _ hr1 Om).mono ?_); rintro e w' ⟨A2, n2, c2, x2, rfl, rfl, o2⟩; (obtain rfl : n2 = 3 := o2.len.symm); (obtain ⟨g2, rfl, hg, hg2⟩ := o2.form_ Om); (have k0 := o2.cell_ 0 Om); (have k1 := o2.cell_ 1 Om); (have k2 := o2.cell_ 2 Om); simp only [List.getElem?_cons_zero, List.getElem?_cons_succ, Option.getD_some] at k0 k1 k2)))
     go_region
     go_wp2_with ((go_at_call 109; ((with_reducible refine ex (csl _) ?_); intro x3)))
     have hB : Below (w.alloc (.cells #[.int .i64 0, .int .i64 0, .int .i64 0] 33)).heap.size (w.alloc (.cells #[.int .i64 0, .int .i64 0, .int .i64 0] 33)) (ext ((ext (ext (w.alloc (.cells #[.int .i64 0, .int .i64 0, .int .i64 0] 33)) x1) x2).alloc (.cells #[.int .i64 a, .int .i64 b, .int .i64 c] 33)).drew x3) := by repeat first | exact .refl _ _ | assumption | refine bExt ?_ _ | refine bAlloc ?_ _ | refine bDrewN ?_ _ | refine bDrew ?_ | refine bSet ?_ (by first | exact Nat.le_refl _ | omega | (simp <;> omega)) _
     have q0 := (hB.cell (p := ⟨w.heap.size, 0, none⟩) Sg).trans (show _ = some (.int .i64 0) from by simp [go_sem]);have q1 := (hB.cell (p := ⟨w.heap.size, 1, none⟩) Sg).trans (show _ = some (.int .i64 0) from by simp [go_sem]);have q2 := (hB.cell (p := ⟨w.heap.size, 2, none⟩) Sg).trans (show _ = some (.int .i64 0) from by simp [go_sem]);refine bodyPost_ret (v := .tuple #[.agg #[.int .i64 0, .int .i64 0, .int .i64 0], .bool false]) (by simp [results, Tryz.results93, go_sem, q0, q1, q2]) rfl ?_;exact RetSlK.none_ HV.out bL
    ·
     rw [hq] at csl HV;have HV := Lib.hid (show slR s.data.toList = some (a, b, c) from HV.out);clear hq;go_enter Tryz.func93, Tryz.ntmps93;go_wp2_with (first | (go_at_call 54; ((with_reducible refine (csp _ bL).mono ?_); rintro e w' ⟨A1, n1, c1, x1, rfl, rfl, o1⟩; (have hl1 := o1.len); (have hr1 := o1.rd))) | (go_at_call 130; ((with_reducible refine (cin _ _ _ _ hr1 Om).mono ?_); rintro e w' ⟨A2, n2, c2, x2, rfl, rfl, o2⟩; (obtain rfl : n2 = 3 := o2.len.symm); (obtain ⟨g2, rfl, hg, hg2⟩ := o2.form_ Om); (have k0 := o2.cell_ 0 Om); (have k1 := o2.cell_ 1 Om); (have k2 := o2.cell_ 2 Om); simp only [List.getElem?_cons_zero, List.getElem?_cons_succ, Option.getD_some] at k0 k1 k2)))
     go_region
     go_wp2_with ((go_at_call 109; ((with_reducible refine ex (csl _) ?_); intro x3)))
     have hB : Below (w.alloc (.cells #[.int .i64 0, .int .i64 0, .int .i64 0] 33)).heap.size (w.alloc (.cells #[.int .i64 0, .int .i64 0, .int .i64 0] 33)) (ext ((ext (ext (w.alloc (.cells #[.int .i64 0, .int .i64 0, .int .i64 0] 33)) x1) x2).alloc (.cells #[.int .i64 a, .int .i64 b, .int .i64 c] 33)).drew x3) := by repeat first | exact .refl _ _ | assumption | refine bExt ?_ _ | refine bAlloc ?_ _ | refine bDrewN ?_ _ | refine bDrew ?_ | refine bSet ?_ (by first | exact Nat.le_refl _ | omega | (simp <;> omega)) _
     have q0 := (hB.cell (p := ⟨w.heap.size, 0, none⟩) Sg).trans (show _ = some (.int .i64 0) from by simp [go_sem]);have q1 := (hB.cell (p := ⟨w.heap.size, 1, none⟩) Sg).trans (show _ = some (.int .i64 0) from by simp [go_sem]);have q2 := (hB.cell (p := ⟨w.heap.size, 2, none⟩) Sg).trans (show _ = some (.int .i64 0) from by simp [go_sem]);refine bodyPost_ret (v := .tuple #[.agg #[.int .i64 a, .int .i64 b, .int .i64 c], .bool true]) (by simp [results, Tryz.results93, go_sem, q0, q1, q2]) rfl ?_;exact RetSlK.mk_ HV.out bL
  ·
   have HE := Lib.hid (slR_len hr hl);have hl' : ∀ n : Nat, l.length = n -> ¬ (n : Int) = 3 := fun n h e => hl Om
   have hlB : ∀ n : Nat, l.length = n -> ((n : Int) == 3) = false := fun n h => by have := hl' n h; simp; omega
   clear hr hl;go_enter Tryz.func93, Tryz.ntmps93;go_wp2_with (first | (go_at_call 54; ((with_reducible refine (csp _ bL).mono ?_); rintro e w' ⟨A1, n1, c1, x1, rfl, rfl, o1⟩; (have hl1 := o1.len); (have hr1 := o1.rd))) | (go_at_call 130; ((with_reducible refine (cin _ _ _ _ hr1 Om).mono ?_); rintro e w' ⟨A2, n2, c2, x2, rfl, rfl, o2⟩; (have hn2 := hl' n2 o2.len); (have hnB := hlB n2 o2.len))))
   refine bodyPost_ret (v := .tuple #[.agg #[.int .i64 0, .int .i64 0, .int .i64 0], .bool false]) (by simp [results, Tryz.results93, go_sem]) rfl ?_;exact RetSlK.none_ HE.out bL
end Go.Proofs.YtlfhhkgleapamaaGreatDoor
