/-
  No cell of these rows narrows 'for every input' (looked for: loops, veiled, ifaces, maps, wideKeys, modest, calm, conditions, laid).
  DERIVED. THE GIVEN ROWS OF THIS SEAT. 12 by the template 'for every input the law returns true; each argument reads behind the call as it read before'; 0 by the template 'total and deterministic' (their statements: YteokhlecdnbfiaaTotals.lean).
  GIVEN WITH THE SEED: the statements are not yours to turn. If you find one false, say at which input.
  Laid BY PROGRAM, IN A SANDBOX (cutbox-rows.mjs): the forced cells as the released guide's own fill.sh prints them over the translation db23d8df3ddafc7b… (all of the seat's roots in one cut). By AI agents, Wed Nov 11 2026. No macro, syntax, notation, axiom, sorry.
-/
import Derived.Test.YteokhlecdnbfiaaChecked
import GoSem.Claim
import GoSem.ClaimJoined
import GoSem.ClaimMapViews
import Derived.JoinedTies
import Derived.KernelRfl
namespace Go.Proofs.Yteokhlecdnbfiaa
/- THE CELL 'sum', in the pinned program and in every row, IS THE sha256 OF THE DUMP (.gsa) THAT YteokhlecdnbfiaaProg.lean LOADS. Nothing in Lean hashes anything: it is a label: what it is worth is what the hold of that sum in a sandbox is worth. -/
noncomputable def Try.pinned : Pinned := { name := "yteokhlecdnbfiaa", sum := "db23d8df3ddafc7bc434acbc45b9abf1efb524225d38e723b7af07efad48650c", checked := Try.checked }
namespace Rows
def none {H : Type} : Left H := { results := [], args := [] }

/-- 'laws.FnExactBiasOf': WHATEVER THE INPUT: true; the input reads as it did. -/
def fnExactBiasOfSpec : ChangeSpec := { name := "fnExactBiasOf", fn := fun _ => fun
  | [d1, d2] => { results := [.lit (.bool true)], args := [d1, d2] }
  | _ => none }
def fnExactBiasOfRow : OpenClaim := { program := "yteokhlecdnbfiaa", sum := "db23d8df3ddafc7bc434acbc45b9abf1efb524225d38e723b7af07efad48650c", func := "loop.example/g00912/laws.FnExactBiasOf", spec := "fnExactBiasOf", apart := false }
def FnExactBiasOfSaid : Prop := fnExactBiasOfRow.holds Try.pinned (OpenSpec.ofChange fnExactBiasOfSpec)

/-- ITS FALSE NEIGHBOUR: 'it returns false'. Refute it at one input. -/
def fnExactBiasOfWrong : ChangeSpec := { name := "fnExactBiasOf", fn := fun _ => fun
  | [d1, d2] => { results := [.lit (.bool false)], args := [d1, d2] }
  | _ => none }
def FnExactBiasOfWrongFalsely : Prop := fnExactBiasOfRow.holds Try.pinned (OpenSpec.ofChange fnExactBiasOfWrong)

/-- 'laws.FnExactGreatestDrift': WHATEVER THE INPUT: true; the input reads as it did. -/
def fnExactGreatestDriftSpec : ChangeSpec := { name := "fnExactGreatestDrift", fn := fun _ => fun
  | [d] => { results := [.lit (.bool true)], args := [d] }
  | _ => none }
def fnExactGreatestDriftRow : OpenClaim := { program := "yteokhlecdnbfiaa", sum := "db23d8df3ddafc7bc434acbc45b9abf1efb524225d38e723b7af07efad48650c", func := "loop.example/g00912/laws.FnExactGreatestDrift", spec := "fnExactGreatestDrift", apart := false }
def FnExactGreatestDriftSaid : Prop := fnExactGreatestDriftRow.holds Try.pinned (OpenSpec.ofChange fnExactGreatestDriftSpec)

/-- ITS FALSE NEIGHBOUR: 'it returns false'. Refute it at one input. -/
def fnExactGreatestDriftWrong : ChangeSpec := { name := "fnExactGreatestDrift", fn := fun _ => fun
  | [d] => { results := [.lit (.bool false)], args := [d] }
  | _ => none }
def FnExactGreatestDriftWrongFalsely : Prop := fnExactGreatestDriftRow.holds Try.pinned (OpenSpec.ofChange fnExactGreatestDriftWrong)

/-- 'laws.FnExactFirstDrift': WHATEVER THE INPUT: true; the input reads as it did. -/
def fnExactFirstDriftSpec : ChangeSpec := { name := "fnExactFirstDrift", fn := fun _ => fun
  | [d1, d2] => { results := [.lit (.bool true)], args := [d1, d2] }
  | _ => none }
def fnExactFirstDriftRow : OpenClaim := { program := "yteokhlecdnbfiaa", sum := "db23d8df3ddafc7bc434acbc45b9abf1efb524225d38e723b7af07efad48650c", func := "loop.example/g00912/laws.FnExactFirstDrift", spec := "fnExactFirstDrift", apart := false }
def FnExactFirstDriftSaid : Prop := fnExactFirstDriftRow.holds Try.pinned (OpenSpec.ofChange fnExactFirstDriftSpec)

/-- ITS FALSE NEIGHBOUR: 'it returns false'. Refute it at one input. -/
def fnExactFirstDriftWrong : ChangeSpec := { name := "fnExactFirstDrift", fn := fun _ => fun
  | [d1, d2] => { results := [.lit (.bool false)], args := [d1, d2] }
  | _ => none }
def FnExactFirstDriftWrongFalsely : Prop := fnExactFirstDriftRow.holds Try.pinned (OpenSpec.ofChange fnExactFirstDriftWrong)

/-- 'laws.FnExactSlopeOf': WHATEVER THE INPUT: true; the input reads as it did. -/
def fnExactSlopeOfSpec : ChangeSpec := { name := "fnExactSlopeOf", fn := fun _ => fun
  | [d] => { results := [.lit (.bool true)], args := [d] }
  | _ => none }
def fnExactSlopeOfRow : OpenClaim := { program := "yteokhlecdnbfiaa", sum := "db23d8df3ddafc7bc434acbc45b9abf1efb524225d38e723b7af07efad48650c", func := "loop.example/g00912/laws.FnExactSlopeOf", spec := "fnExactSlopeOf", apart := false }
def FnExactSlopeOfSaid : Prop := fnExactSlopeOfRow.holds Try.pinned (OpenSpec.ofChange fnExactSlopeOfSpec)

/-- ITS FALSE NEIGHBOUR: 'it returns false'. Refute it at one input. -/
def fnExactSlopeOfWrong : ChangeSpec := { name := "fnExactSlopeOf", fn := fun _ => fun
  | [d] => { results := [.lit (.bool false)], args := [d] }
  | _ => none }
def FnExactSlopeOfWrongFalsely : Prop := fnExactSlopeOfRow.holds Try.pinned (OpenSpec.ofChange fnExactSlopeOfWrong)

/-- 'laws.FnExactAgreementOf': WHATEVER THE INPUT: true; the input reads as it did. -/
def fnExactAgreementOfSpec : ChangeSpec := { name := "fnExactAgreementOf", fn := fun _ => fun
  | [d1, d2, d3] => { results := [.lit (.bool true)], args := [d1, d2, d3] }
  | _ => none }
def fnExactAgreementOfRow : OpenClaim := { program := "yteokhlecdnbfiaa", sum := "db23d8df3ddafc7bc434acbc45b9abf1efb524225d38e723b7af07efad48650c", func := "loop.example/g00912/laws.FnExactAgreementOf", spec := "fnExactAgreementOf", unfollowed := true, recurses := true, apart := false }
def FnExactAgreementOfSaid : Prop := fnExactAgreementOfRow.holds Try.pinned (OpenSpec.ofChange fnExactAgreementOfSpec)

/-- ITS FALSE NEIGHBOUR: 'it returns false'. Refute it at one input. -/
def fnExactAgreementOfWrong : ChangeSpec := { name := "fnExactAgreementOf", fn := fun _ => fun
  | [d1, d2, d3] => { results := [.lit (.bool false)], args := [d1, d2, d3] }
  | _ => none }
def FnExactAgreementOfWrongFalsely : Prop := fnExactAgreementOfRow.holds Try.pinned (OpenSpec.ofChange fnExactAgreementOfWrong)

/-- 'laws.FnExactDeviationOf': WHATEVER THE INPUT: true; the input reads as it did. -/
def fnExactDeviationOfSpec : ChangeSpec := { name := "fnExactDeviationOf", fn := fun _ => fun
  | [d1, d2] => { results := [.lit (.bool true)], args := [d1, d2] }
  | _ => none }
def fnExactDeviationOfRow : OpenClaim := { program := "yteokhlecdnbfiaa", sum := "db23d8df3ddafc7bc434acbc45b9abf1efb524225d38e723b7af07efad48650c", func := "loop.example/g00912/laws.FnExactDeviationOf", spec := "fnExactDeviationOf", unfollowed := true, recurses := true, apart := false }
def FnExactDeviationOfSaid : Prop := fnExactDeviationOfRow.holds Try.pinned (OpenSpec.ofChange fnExactDeviationOfSpec)

/-- ITS FALSE NEIGHBOUR: 'it returns false'. Refute it at one input. -/
def fnExactDeviationOfWrong : ChangeSpec := { name := "fnExactDeviationOf", fn := fun _ => fun
  | [d1, d2] => { results := [.lit (.bool false)], args := [d1, d2] }
  | _ => none }
def FnExactDeviationOfWrongFalsely : Prop := fnExactDeviationOfRow.holds Try.pinned (OpenSpec.ofChange fnExactDeviationOfWrong)

/-- 'laws.FnExactOrderAgreement': WHATEVER THE INPUT: true; the input reads as it did. -/
def fnExactOrderAgreementSpec : ChangeSpec := { name := "fnExactOrderAgreement", fn := fun _ => fun
  | [d1, d2, d3] => { results := [.lit (.bool true)], args := [d1, d2, d3] }
  | _ => none }
def fnExactOrderAgreementRow : OpenClaim := { program := "yteokhlecdnbfiaa", sum := "db23d8df3ddafc7bc434acbc45b9abf1efb524225d38e723b7af07efad48650c", func := "loop.example/g00912/laws.FnExactOrderAgreement", spec := "fnExactOrderAgreement", unfollowed := true, recurses := true, apart := false }
def FnExactOrderAgreementSaid : Prop := fnExactOrderAgreementRow.holds Try.pinned (OpenSpec.ofChange fnExactOrderAgreementSpec)

/-- ITS FALSE NEIGHBOUR: 'it returns false'. Refute it at one input. -/
def fnExactOrderAgreementWrong : ChangeSpec := { name := "fnExactOrderAgreement", fn := fun _ => fun
  | [d1, d2, d3] => { results := [.lit (.bool false)], args := [d1, d2, d3] }
  | _ => none }
def FnExactOrderAgreementWrongFalsely : Prop := fnExactOrderAgreementRow.holds Try.pinned (OpenSpec.ofChange fnExactOrderAgreementWrong)

/-- 'laws.FnDrifts': WHATEVER THE INPUT: true; the input reads as it did. -/
def fnDriftsSpec : ChangeSpec := { name := "fnDrifts", fn := fun _ => fun
  | [d1, d2] => { results := [.lit (.bool true)], args := [d1, d2] }
  | _ => none }
def fnDriftsRow : OpenClaim := { program := "yteokhlecdnbfiaa", sum := "db23d8df3ddafc7bc434acbc45b9abf1efb524225d38e723b7af07efad48650c", func := "loop.example/g00912/laws.FnDrifts", spec := "fnDrifts", apart := false }
def FnDriftsSaid : Prop := fnDriftsRow.holds Try.pinned (OpenSpec.ofChange fnDriftsSpec)

/-- ITS FALSE NEIGHBOUR: 'it returns false'. Refute it at one input. -/
def fnDriftsWrong : ChangeSpec := { name := "fnDrifts", fn := fun _ => fun
  | [d1, d2] => { results := [.lit (.bool false)], args := [d1, d2] }
  | _ => none }
def FnDriftsWrongFalsely : Prop := fnDriftsRow.holds Try.pinned (OpenSpec.ofChange fnDriftsWrong)

/-- 'laws.FnExactRangesOf': WHATEVER THE INPUT: true; the input reads as it did. -/
def fnExactRangesOfSpec : ChangeSpec := { name := "fnExactRangesOf", fn := fun _ => fun
  | [d] => { results := [.lit (.bool true)], args := [d] }
  | _ => none }
def fnExactRangesOfRow : OpenClaim := { program := "yteokhlecdnbfiaa", sum := "db23d8df3ddafc7bc434acbc45b9abf1efb524225d38e723b7af07efad48650c", func := "loop.example/g00912/laws.FnExactRangesOf", spec := "fnExactRangesOf", unfollowed := true, recurses := true, apart := false }
def FnExactRangesOfSaid : Prop := fnExactRangesOfRow.holds Try.pinned (OpenSpec.ofChange fnExactRangesOfSpec)

/-- ITS FALSE NEIGHBOUR: 'it returns false'. Refute it at one input. -/
def fnExactRangesOfWrong : ChangeSpec := { name := "fnExactRangesOf", fn := fun _ => fun
  | [d] => { results := [.lit (.bool false)], args := [d] }
  | _ => none }
def FnExactRangesOfWrongFalsely : Prop := fnExactRangesOfRow.holds Try.pinned (OpenSpec.ofChange fnExactRangesOfWrong)

/-- 'laws.FnExactOutsideOf': WHATEVER THE INPUT: true; the input reads as it did. -/
def fnExactOutsideOfSpec : ChangeSpec := { name := "fnExactOutsideOf", fn := fun _ => fun
  | [d1, d2, d3] => { results := [.lit (.bool true)], args := [d1, d2, d3] }
  | _ => none }
def fnExactOutsideOfRow : OpenClaim := { program := "yteokhlecdnbfiaa", sum := "db23d8df3ddafc7bc434acbc45b9abf1efb524225d38e723b7af07efad48650c", func := "loop.example/g00912/laws.FnExactOutsideOf", spec := "fnExactOutsideOf", unfollowed := true, recurses := true, apart := false }
def FnExactOutsideOfSaid : Prop := fnExactOutsideOfRow.holds Try.pinned (OpenSpec.ofChange fnExactOutsideOfSpec)

/-- ITS FALSE NEIGHBOUR: 'it returns false'. Refute it at one input. -/
def fnExactOutsideOfWrong : ChangeSpec := { name := "fnExactOutsideOf", fn := fun _ => fun
  | [d1, d2, d3] => { results := [.lit (.bool false)], args := [d1, d2, d3] }
  | _ => none }
def FnExactOutsideOfWrongFalsely : Prop := fnExactOutsideOfRow.holds Try.pinned (OpenSpec.ofChange fnExactOutsideOfWrong)

/-- 'laws.FnExactDoubleMedians': WHATEVER THE INPUT: true; the input reads as it did. -/
def fnExactDoubleMediansSpec : ChangeSpec := { name := "fnExactDoubleMedians", fn := fun _ => fun
  | [d] => { results := [.lit (.bool true)], args := [d] }
  | _ => none }
def fnExactDoubleMediansRow : OpenClaim := { program := "yteokhlecdnbfiaa", sum := "db23d8df3ddafc7bc434acbc45b9abf1efb524225d38e723b7af07efad48650c", func := "loop.example/g00912/laws.FnExactDoubleMedians", spec := "fnExactDoubleMedians", unfollowed := true, recurses := true, apart := false }
def FnExactDoubleMediansSaid : Prop := fnExactDoubleMediansRow.holds Try.pinned (OpenSpec.ofChange fnExactDoubleMediansSpec)

/-- ITS FALSE NEIGHBOUR: 'it returns false'. Refute it at one input. -/
def fnExactDoubleMediansWrong : ChangeSpec := { name := "fnExactDoubleMedians", fn := fun _ => fun
  | [d] => { results := [.lit (.bool false)], args := [d] }
  | _ => none }
def FnExactDoubleMediansWrongFalsely : Prop := fnExactDoubleMediansRow.holds Try.pinned (OpenSpec.ofChange fnExactDoubleMediansWrong)

/-- 'laws.FnDeviations': WHATEVER THE INPUT: true; the input reads as it did. -/
def fnDeviationsSpec : ChangeSpec := { name := "fnDeviations", fn := fun _ => fun
  | [d1, d2] => { results := [.lit (.bool true)], args := [d1, d2] }
  | _ => none }
def fnDeviationsRow : OpenClaim := { program := "yteokhlecdnbfiaa", sum := "db23d8df3ddafc7bc434acbc45b9abf1efb524225d38e723b7af07efad48650c", func := "loop.example/g00912/laws.FnDeviations", spec := "fnDeviations", unfollowed := true, recurses := true, apart := false }
def FnDeviationsSaid : Prop := fnDeviationsRow.holds Try.pinned (OpenSpec.ofChange fnDeviationsSpec)

/-- ITS FALSE NEIGHBOUR: 'it returns false'. Refute it at one input. -/
def fnDeviationsWrong : ChangeSpec := { name := "fnDeviations", fn := fun _ => fun
  | [d1, d2] => { results := [.lit (.bool false)], args := [d1, d2] }
  | _ => none }
def FnDeviationsWrongFalsely : Prop := fnDeviationsRow.holds Try.pinned (OpenSpec.ofChange fnDeviationsWrong)

/- THE SECOND FORM. 'bulk': how many values and letters a reading holds, each counted each time it is reached (what is shared counts as often as it is met; a slice's spare places count too). A statement '..UptoSaid' is the law's where the arguments, and the package variables that the reading takes, are together of bulk at most 1048576: NARROWER than '..Said'. Prove '..Said' where nothing that the law and all that it calls make is longer than what came in: it says more and counts as full. Else prove '..UptoSaid'. A law counts once. -/
mutual
def uptoBulk {H : Type} : DataW H → Nat
  | .lit (.string bytes) => bytes.length + 1
  | .lit _ => 1
  | .nil => 1
  | .ptr d => uptoBulk d + 1
  | .slice elems spare => uptoBulkAll elems + uptoBulkAll spare + 1
  | .agg parts => uptoBulkAll parts + 1
  | .iface _ d => uptoBulk d + 1
  | .map entries => uptoBulkEntries entries + 1
  | .held _ => 1
def uptoBulkAll {H : Type} : List (DataW H) → Nat
  | [] => 0
  | d :: r => uptoBulk d + uptoBulkAll r
def uptoBulkEntries {H : Type} : List (Lit × DataW H) → Nat
  | [] => 0
  | x :: r => uptoBulkEntry x + uptoBulkEntries r
def uptoBulkEntry {H : Type} : Lit × DataW H → Nat
  | (.string bytes, d) => bytes.length + uptoBulk d + 1
  | (_, d) => uptoBulk d + 1
 end
def uptoSmall : (H : Type) → List (DataW H) → Bool := fun _ ds => decide (uptoBulkAll ds ≤ 1048576)
def OpenSpec.upto (s : _root_.Go.ChangeSpec) : _root_.Go.OpenSpec := { _root_.Go.OpenSpec.ofChange s with cond := some uptoSmall }

/-- 'laws.FnExactBiasOf', WHERE WHAT IT READS IS OF BULK AT MOST 1048576: true; the input reads as it did. -/
def fnExactBiasOfUptoRow : OpenClaim := { program := "yteokhlecdnbfiaa", sum := "db23d8df3ddafc7bc434acbc45b9abf1efb524225d38e723b7af07efad48650c", func := "loop.example/g00912/laws.FnExactBiasOf", spec := "fnExactBiasOf", apart := false, narrowed := true }
def FnExactBiasOfUptoSaid : Prop := fnExactBiasOfUptoRow.holds Try.pinned (OpenSpec.upto fnExactBiasOfSpec)

/-- 'laws.FnExactGreatestDrift', WHERE WHAT IT READS IS OF BULK AT MOST 1048576: true; the input reads as it did. -/
def fnExactGreatestDriftUptoRow : OpenClaim := { program := "yteokhlecdnbfiaa", sum := "db23d8df3ddafc7bc434acbc45b9abf1efb524225d38e723b7af07efad48650c", func := "loop.example/g00912/laws.FnExactGreatestDrift", spec := "fnExactGreatestDrift", apart := false, narrowed := true }
def FnExactGreatestDriftUptoSaid : Prop := fnExactGreatestDriftUptoRow.holds Try.pinned (OpenSpec.upto fnExactGreatestDriftSpec)

/-- 'laws.FnExactFirstDrift', WHERE WHAT IT READS IS OF BULK AT MOST 1048576: true; the input reads as it did. -/
def fnExactFirstDriftUptoRow : OpenClaim := { program := "yteokhlecdnbfiaa", sum := "db23d8df3ddafc7bc434acbc45b9abf1efb524225d38e723b7af07efad48650c", func := "loop.example/g00912/laws.FnExactFirstDrift", spec := "fnExactFirstDrift", apart := false, narrowed := true }
def FnExactFirstDriftUptoSaid : Prop := fnExactFirstDriftUptoRow.holds Try.pinned (OpenSpec.upto fnExactFirstDriftSpec)

/-- 'laws.FnExactSlopeOf', WHERE WHAT IT READS IS OF BULK AT MOST 1048576: true; the input reads as it did. -/
def fnExactSlopeOfUptoRow : OpenClaim := { program := "yteokhlecdnbfiaa", sum := "db23d8df3ddafc7bc434acbc45b9abf1efb524225d38e723b7af07efad48650c", func := "loop.example/g00912/laws.FnExactSlopeOf", spec := "fnExactSlopeOf", apart := false, narrowed := true }
def FnExactSlopeOfUptoSaid : Prop := fnExactSlopeOfUptoRow.holds Try.pinned (OpenSpec.upto fnExactSlopeOfSpec)

/-- 'laws.FnExactAgreementOf', WHERE WHAT IT READS IS OF BULK AT MOST 1048576: true; the input reads as it did. -/
def fnExactAgreementOfUptoRow : OpenClaim := { program := "yteokhlecdnbfiaa", sum := "db23d8df3ddafc7bc434acbc45b9abf1efb524225d38e723b7af07efad48650c", func := "loop.example/g00912/laws.FnExactAgreementOf", spec := "fnExactAgreementOf", unfollowed := true, recurses := true, apart := false, narrowed := true }
def FnExactAgreementOfUptoSaid : Prop := fnExactAgreementOfUptoRow.holds Try.pinned (OpenSpec.upto fnExactAgreementOfSpec)

/-- 'laws.FnExactDeviationOf', WHERE WHAT IT READS IS OF BULK AT MOST 1048576: true; the input reads as it did. -/
def fnExactDeviationOfUptoRow : OpenClaim := { program := "yteokhlecdnbfiaa", sum := "db23d8df3ddafc7bc434acbc45b9abf1efb524225d38e723b7af07efad48650c", func := "loop.example/g00912/laws.FnExactDeviationOf", spec := "fnExactDeviationOf", unfollowed := true, recurses := true, apart := false, narrowed := true }
def FnExactDeviationOfUptoSaid : Prop := fnExactDeviationOfUptoRow.holds Try.pinned (OpenSpec.upto fnExactDeviationOfSpec)

/-- 'laws.FnExactOrderAgreement', WHERE WHAT IT READS IS OF BULK AT MOST 1048576: true; the input reads as it did. -/
def fnExactOrderAgreementUptoRow : OpenClaim := { program := "yteokhlecdnbfiaa", sum := "db23d8df3ddafc7bc434acbc45b9abf1efb524225d38e723b7af07efad48650c", func := "loop.example/g00912/laws.FnExactOrderAgreement", spec := "fnExactOrderAgreement", unfollowed := true, recurses := true, apart := false, narrowed := true }
def FnExactOrderAgreementUptoSaid : Prop := fnExactOrderAgreementUptoRow.holds Try.pinned (OpenSpec.upto fnExactOrderAgreementSpec)

/-- 'laws.FnDrifts', WHERE WHAT IT READS IS OF BULK AT MOST 1048576: true; the input reads as it did. -/
def fnDriftsUptoRow : OpenClaim := { program := "yteokhlecdnbfiaa", sum := "db23d8df3ddafc7bc434acbc45b9abf1efb524225d38e723b7af07efad48650c", func := "loop.example/g00912/laws.FnDrifts", spec := "fnDrifts", apart := false, narrowed := true }
def FnDriftsUptoSaid : Prop := fnDriftsUptoRow.holds Try.pinned (OpenSpec.upto fnDriftsSpec)

/-- 'laws.FnExactRangesOf', WHERE WHAT IT READS IS OF BULK AT MOST 1048576: true; the input reads as it did. -/
def fnExactRangesOfUptoRow : OpenClaim := { program := "yteokhlecdnbfiaa", sum := "db23d8df3ddafc7bc434acbc45b9abf1efb524225d38e723b7af07efad48650c", func := "loop.example/g00912/laws.FnExactRangesOf", spec := "fnExactRangesOf", unfollowed := true, recurses := true, apart := false, narrowed := true }
def FnExactRangesOfUptoSaid : Prop := fnExactRangesOfUptoRow.holds Try.pinned (OpenSpec.upto fnExactRangesOfSpec)

/-- 'laws.FnExactOutsideOf', WHERE WHAT IT READS IS OF BULK AT MOST 1048576: true; the input reads as it did. -/
def fnExactOutsideOfUptoRow : OpenClaim := { program := "yteokhlecdnbfiaa", sum := "db23d8df3ddafc7bc434acbc45b9abf1efb524225d38e723b7af07efad48650c", func := "loop.example/g00912/laws.FnExactOutsideOf", spec := "fnExactOutsideOf", unfollowed := true, recurses := true, apart := false, narrowed := true }
def FnExactOutsideOfUptoSaid : Prop := fnExactOutsideOfUptoRow.holds Try.pinned (OpenSpec.upto fnExactOutsideOfSpec)

/-- 'laws.FnExactDoubleMedians', WHERE WHAT IT READS IS OF BULK AT MOST 1048576: true; the input reads as it did. -/
def fnExactDoubleMediansUptoRow : OpenClaim := { program := "yteokhlecdnbfiaa", sum := "db23d8df3ddafc7bc434acbc45b9abf1efb524225d38e723b7af07efad48650c", func := "loop.example/g00912/laws.FnExactDoubleMedians", spec := "fnExactDoubleMedians", unfollowed := true, recurses := true, apart := false, narrowed := true }
def FnExactDoubleMediansUptoSaid : Prop := fnExactDoubleMediansUptoRow.holds Try.pinned (OpenSpec.upto fnExactDoubleMediansSpec)

/-- 'laws.FnDeviations', WHERE WHAT IT READS IS OF BULK AT MOST 1048576: true; the input reads as it did. -/
def fnDeviationsUptoRow : OpenClaim := { program := "yteokhlecdnbfiaa", sum := "db23d8df3ddafc7bc434acbc45b9abf1efb524225d38e723b7af07efad48650c", func := "loop.example/g00912/laws.FnDeviations", spec := "fnDeviations", unfollowed := true, recurses := true, apart := false, narrowed := true }
def FnDeviationsUptoSaid : Prop := fnDeviationsUptoRow.holds Try.pinned (OpenSpec.upto fnDeviationsSpec)

end Rows
end Go.Proofs.Yteokhlecdnbfiaa
