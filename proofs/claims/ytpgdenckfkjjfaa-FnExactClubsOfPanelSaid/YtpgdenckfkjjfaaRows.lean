/-
  No cell of these rows narrows 'for every input' (looked for: loops, veiled, ifaces, maps, wideKeys, modest, calm, conditions, laid).
  DERIVED. THE GIVEN ROWS OF THIS SEAT. 6 by the template 'for every input the law returns true; each argument reads behind the call as it read before'; 0 by the template 'total and deterministic' (their statements: YtpgdenckfkjjfaaTotals.lean).
  GIVEN WITH THE SEED: the statements are not yours to turn. If you find one false, say at which input.
  Laid BY PROGRAM, IN A SANDBOX (cutbox-rows.mjs): the forced cells as the released guide's own fill.sh prints them over the translation 051aac58c81da28b… (all of the seat's roots in one cut). By AI agents, Wed Nov 11 2026. No macro, syntax, notation, axiom, sorry.
-/
import Derived.Test.YtpgdenckfkjjfaaChecked
import GoSem.Claim
import GoSem.ClaimJoined
import GoSem.ClaimMapViews
import Derived.JoinedTies
import Derived.KernelRfl
namespace Go.Proofs.Ytpgdenckfkjjfaa
/- THE CELL 'sum', in the pinned program and in every row, IS THE sha256 OF THE DUMP (.gsa) THAT YtpgdenckfkjjfaaProg.lean LOADS. Nothing in Lean hashes anything: it is a label: what it is worth is what the hold of that sum in a sandbox is worth. -/
noncomputable def Try.pinned : Pinned := { name := "ytpgdenckfkjjfaa", sum := "051aac58c81da28bc5174f5b14d7e1fb39b1a60bde845f5702eed854c3cc3f73", checked := Try.checked }
namespace Rows
def none {H : Type} : Left H := { results := [], args := [] }

/-- 'laws.FnExactAreOfficials': WHATEVER THE INPUT: true; the input reads as it did. -/
def fnExactAreOfficialsSpec : ChangeSpec := { name := "fnExactAreOfficials", fn := fun _ => fun
  | [d] => { results := [.lit (.bool true)], args := [d] }
  | _ => none }
def fnExactAreOfficialsRow : OpenClaim := { program := "ytpgdenckfkjjfaa", sum := "051aac58c81da28bc5174f5b14d7e1fb39b1a60bde845f5702eed854c3cc3f73", func := "loop.example/g00912/laws.FnExactAreOfficials", spec := "fnExactAreOfficials", unfollowed := true, recurses := true, apart := false }
def FnExactAreOfficialsSaid : Prop := fnExactAreOfficialsRow.holds Try.pinned (OpenSpec.ofChange fnExactAreOfficialsSpec)

/-- ITS FALSE NEIGHBOUR: 'it returns false'. Refute it at one input. -/
def fnExactAreOfficialsWrong : ChangeSpec := { name := "fnExactAreOfficials", fn := fun _ => fun
  | [d] => { results := [.lit (.bool false)], args := [d] }
  | _ => none }
def FnExactAreOfficialsWrongFalsely : Prop := fnExactAreOfficialsRow.holds Try.pinned (OpenSpec.ofChange fnExactAreOfficialsWrong)

/-- 'laws.FnExactEligibleFor': WHATEVER THE INPUT: true; the input reads as it did. -/
def fnExactEligibleForSpec : ChangeSpec := { name := "fnExactEligibleFor", fn := fun _ => fun
  | [d1, d2, d3] => { results := [.lit (.bool true)], args := [d1, d2, d3] }
  | _ => none }
def fnExactEligibleForRow : OpenClaim := { program := "ytpgdenckfkjjfaa", sum := "051aac58c81da28bc5174f5b14d7e1fb39b1a60bde845f5702eed854c3cc3f73", func := "loop.example/g00912/laws.FnExactEligibleFor", spec := "fnExactEligibleFor", unfollowed := true, recurses := true, apart := false }
def FnExactEligibleForSaid : Prop := fnExactEligibleForRow.holds Try.pinned (OpenSpec.ofChange fnExactEligibleForSpec)

/-- ITS FALSE NEIGHBOUR: 'it returns false'. Refute it at one input. -/
def fnExactEligibleForWrong : ChangeSpec := { name := "fnExactEligibleFor", fn := fun _ => fun
  | [d1, d2, d3] => { results := [.lit (.bool false)], args := [d1, d2, d3] }
  | _ => none }
def FnExactEligibleForWrongFalsely : Prop := fnExactEligibleForRow.holds Try.pinned (OpenSpec.ofChange fnExactEligibleForWrong)

/-- 'laws.FnExactLargestPanel': WHATEVER THE INPUT: true; the input reads as it did. -/
def fnExactLargestPanelSpec : ChangeSpec := { name := "fnExactLargestPanel", fn := fun _ => fun
  | [d1, d2, d3, d4] => { results := [.lit (.bool true)], args := [d1, d2, d3, d4] }
  | _ => none }
def fnExactLargestPanelRow : OpenClaim := { program := "ytpgdenckfkjjfaa", sum := "051aac58c81da28bc5174f5b14d7e1fb39b1a60bde845f5702eed854c3cc3f73", func := "loop.example/g00912/laws.FnExactLargestPanel", spec := "fnExactLargestPanel", unfollowed := true, recurses := true, apart := false }
def FnExactLargestPanelSaid : Prop := fnExactLargestPanelRow.holds Try.pinned (OpenSpec.ofChange fnExactLargestPanelSpec)

/-- ITS FALSE NEIGHBOUR: 'it returns false'. Refute it at one input. -/
def fnExactLargestPanelWrong : ChangeSpec := { name := "fnExactLargestPanel", fn := fun _ => fun
  | [d1, d2, d3, d4] => { results := [.lit (.bool false)], args := [d1, d2, d3, d4] }
  | _ => none }
def FnExactLargestPanelWrongFalsely : Prop := fnExactLargestPanelRow.holds Try.pinned (OpenSpec.ofChange fnExactLargestPanelWrong)

/-- 'laws.FnExactClubsOfPanel': WHATEVER THE INPUT: true; the input reads as it did. -/
def fnExactClubsOfPanelSpec : ChangeSpec := { name := "fnExactClubsOfPanel", fn := fun _ => fun
  | [d1, d2] => { results := [.lit (.bool true)], args := [d1, d2] }
  | _ => none }
def fnExactClubsOfPanelRow : OpenClaim := { program := "ytpgdenckfkjjfaa", sum := "051aac58c81da28bc5174f5b14d7e1fb39b1a60bde845f5702eed854c3cc3f73", func := "loop.example/g00912/laws.FnExactClubsOfPanel", spec := "fnExactClubsOfPanel", unfollowed := true, recurses := true, apart := false }
def FnExactClubsOfPanelSaid : Prop := fnExactClubsOfPanelRow.holds Try.pinned (OpenSpec.ofChange fnExactClubsOfPanelSpec)

/-- ITS FALSE NEIGHBOUR: 'it returns false'. Refute it at one input. -/
def fnExactClubsOfPanelWrong : ChangeSpec := { name := "fnExactClubsOfPanel", fn := fun _ => fun
  | [d1, d2] => { results := [.lit (.bool false)], args := [d1, d2] }
  | _ => none }
def FnExactClubsOfPanelWrongFalsely : Prop := fnExactClubsOfPanelRow.holds Try.pinned (OpenSpec.ofChange fnExactClubsOfPanelWrong)

/-- 'laws.FnExactIsPanel': WHATEVER THE INPUT: true; the input reads as it did. -/
def fnExactIsPanelSpec : ChangeSpec := { name := "fnExactIsPanel", fn := fun _ => fun
  | [d1, d2, d3, d4, d5] => { results := [.lit (.bool true)], args := [d1, d2, d3, d4, d5] }
  | _ => none }
def fnExactIsPanelRow : OpenClaim := { program := "ytpgdenckfkjjfaa", sum := "051aac58c81da28bc5174f5b14d7e1fb39b1a60bde845f5702eed854c3cc3f73", func := "loop.example/g00912/laws.FnExactIsPanel", spec := "fnExactIsPanel", unfollowed := true, recurses := true, apart := false }
def FnExactIsPanelSaid : Prop := fnExactIsPanelRow.holds Try.pinned (OpenSpec.ofChange fnExactIsPanelSpec)

/-- ITS FALSE NEIGHBOUR: 'it returns false'. Refute it at one input. -/
def fnExactIsPanelWrong : ChangeSpec := { name := "fnExactIsPanel", fn := fun _ => fun
  | [d1, d2, d3, d4, d5] => { results := [.lit (.bool false)], args := [d1, d2, d3, d4, d5] }
  | _ => none }
def FnExactIsPanelWrongFalsely : Prop := fnExactIsPanelRow.holds Try.pinned (OpenSpec.ofChange fnExactIsPanelWrong)

/-- 'laws.FnExactCountPanels': WHATEVER THE INPUT: true; the input reads as it did. -/
def fnExactCountPanelsSpec : ChangeSpec := { name := "fnExactCountPanels", fn := fun _ => fun
  | [d1, d2, d3, d4, d5] => { results := [.lit (.bool true)], args := [d1, d2, d3, d4, d5] }
  | _ => none }
def fnExactCountPanelsRow : OpenClaim := { program := "ytpgdenckfkjjfaa", sum := "051aac58c81da28bc5174f5b14d7e1fb39b1a60bde845f5702eed854c3cc3f73", func := "loop.example/g00912/laws.FnExactCountPanels", spec := "fnExactCountPanels", unfollowed := true, recurses := true, apart := false }
def FnExactCountPanelsSaid : Prop := fnExactCountPanelsRow.holds Try.pinned (OpenSpec.ofChange fnExactCountPanelsSpec)

/-- ITS FALSE NEIGHBOUR: 'it returns false'. Refute it at one input. -/
def fnExactCountPanelsWrong : ChangeSpec := { name := "fnExactCountPanels", fn := fun _ => fun
  | [d1, d2, d3, d4, d5] => { results := [.lit (.bool false)], args := [d1, d2, d3, d4, d5] }
  | _ => none }
def FnExactCountPanelsWrongFalsely : Prop := fnExactCountPanelsRow.holds Try.pinned (OpenSpec.ofChange fnExactCountPanelsWrong)

/- THE SECOND FORM. 'bulk': how many values and letters a reading holds, each counted each time it is reached (what is shared counts as often as it is met; a slice's spare places count too). A statement '..UptoSaid' is the law's where the arguments, and the package variables that the reading takes, are together of bulk at most 1048576: NARROWER than '..Said'. Prove '..Said' where nothing that the law and all that it calls make is longer than what came in: it says more and counts as full. Else prove '..UptoSaid'. A law counts once. -/
mutual
def uptoBulk {H : Type} : DataW H → Nat
  | .lit (.string bytes) => bytes.length + 1
  | .lit _ => 1
  | .nil => 1
  | .ptr d => uptoBulk d + 1
  | .slice elems spare => uptoBulkAll elems + uptoBulkAll spare + 1
  | .agg parts => uptoBulkAll parts + 1
  | .iface _ d => uptoBulk d + 1
  | .map entries => uptoBulkEntries entries + 1
  | .held _ => 1
def uptoBulkAll {H : Type} : List (DataW H) → Nat
  | [] => 0
  | d :: r => uptoBulk d + uptoBulkAll r
def uptoBulkEntries {H : Type} : List (Lit × DataW H) → Nat
  | [] => 0
  | x :: r => uptoBulkEntry x + uptoBulkEntries r
def uptoBulkEntry {H : Type} : Lit × DataW H → Nat
  | (.string bytes, d) => bytes.length + uptoBulk d + 1
  | (_, d) => uptoBulk d + 1
 end
def uptoSmall : (H : Type) → List (DataW H) → Bool := fun _ ds => decide (uptoBulkAll ds ≤ 1048576)
def OpenSpec.upto (s : _root_.Go.ChangeSpec) : _root_.Go.OpenSpec := { _root_.Go.OpenSpec.ofChange s with cond := some uptoSmall }

/-- 'laws.FnExactAreOfficials', WHERE WHAT IT READS IS OF BULK AT MOST 1048576: true; the input reads as it did. -/
def fnExactAreOfficialsUptoRow : OpenClaim := { program := "ytpgdenckfkjjfaa", sum := "051aac58c81da28bc5174f5b14d7e1fb39b1a60bde845f5702eed854c3cc3f73", func := "loop.example/g00912/laws.FnExactAreOfficials", spec := "fnExactAreOfficials", unfollowed := true, recurses := true, apart := false, narrowed := true }
def FnExactAreOfficialsUptoSaid : Prop := fnExactAreOfficialsUptoRow.holds Try.pinned (OpenSpec.upto fnExactAreOfficialsSpec)

/-- 'laws.FnExactEligibleFor', WHERE WHAT IT READS IS OF BULK AT MOST 1048576: true; the input reads as it did. -/
def fnExactEligibleForUptoRow : OpenClaim := { program := "ytpgdenckfkjjfaa", sum := "051aac58c81da28bc5174f5b14d7e1fb39b1a60bde845f5702eed854c3cc3f73", func := "loop.example/g00912/laws.FnExactEligibleFor", spec := "fnExactEligibleFor", unfollowed := true, recurses := true, apart := false, narrowed := true }
def FnExactEligibleForUptoSaid : Prop := fnExactEligibleForUptoRow.holds Try.pinned (OpenSpec.upto fnExactEligibleForSpec)

/-- 'laws.FnExactLargestPanel', WHERE WHAT IT READS IS OF BULK AT MOST 1048576: true; the input reads as it did. -/
def fnExactLargestPanelUptoRow : OpenClaim := { program := "ytpgdenckfkjjfaa", sum := "051aac58c81da28bc5174f5b14d7e1fb39b1a60bde845f5702eed854c3cc3f73", func := "loop.example/g00912/laws.FnExactLargestPanel", spec := "fnExactLargestPanel", unfollowed := true, recurses := true, apart := false, narrowed := true }
def FnExactLargestPanelUptoSaid : Prop := fnExactLargestPanelUptoRow.holds Try.pinned (OpenSpec.upto fnExactLargestPanelSpec)

/-- 'laws.FnExactClubsOfPanel', WHERE WHAT IT READS IS OF BULK AT MOST 1048576: true; the input reads as it did. -/
def fnExactClubsOfPanelUptoRow : OpenClaim := { program := "ytpgdenckfkjjfaa", sum := "051aac58c81da28bc5174f5b14d7e1fb39b1a60bde845f5702eed854c3cc3f73", func := "loop.example/g00912/laws.FnExactClubsOfPanel", spec := "fnExactClubsOfPanel", unfollowed := true, recurses := true, apart := false, narrowed := true }
def FnExactClubsOfPanelUptoSaid : Prop := fnExactClubsOfPanelUptoRow.holds Try.pinned (OpenSpec.upto fnExactClubsOfPanelSpec)

/-- 'laws.FnExactIsPanel', WHERE WHAT IT READS IS OF BULK AT MOST 1048576: true; the input reads as it did. -/
def fnExactIsPanelUptoRow : OpenClaim := { program := "ytpgdenckfkjjfaa", sum := "051aac58c81da28bc5174f5b14d7e1fb39b1a60bde845f5702eed854c3cc3f73", func := "loop.example/g00912/laws.FnExactIsPanel", spec := "fnExactIsPanel", unfollowed := true, recurses := true, apart := false, narrowed := true }
def FnExactIsPanelUptoSaid : Prop := fnExactIsPanelUptoRow.holds Try.pinned (OpenSpec.upto fnExactIsPanelSpec)

/-- 'laws.FnExactCountPanels', WHERE WHAT IT READS IS OF BULK AT MOST 1048576: true; the input reads as it did. -/
def fnExactCountPanelsUptoRow : OpenClaim := { program := "ytpgdenckfkjjfaa", sum := "051aac58c81da28bc5174f5b14d7e1fb39b1a60bde845f5702eed854c3cc3f73", func := "loop.example/g00912/laws.FnExactCountPanels", spec := "fnExactCountPanels", unfollowed := true, recurses := true, apart := false, narrowed := true }
def FnExactCountPanelsUptoSaid : Prop := fnExactCountPanelsUptoRow.holds Try.pinned (OpenSpec.upto fnExactCountPanelsSpec)

end Rows
end Go.Proofs.Ytpgdenckfkjjfaa
