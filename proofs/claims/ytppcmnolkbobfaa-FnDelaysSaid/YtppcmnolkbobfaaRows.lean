/-
  No cell of these rows narrows 'for every input' (looked for: loops, veiled, ifaces, maps, wideKeys, modest, calm, conditions, laid).
  DERIVED. THE GIVEN ROWS OF THIS SEAT. 6 by the template 'for every input the law returns true; each argument reads behind the call as it read before'; 0 by the template 'total and deterministic' (their statements: YtppcmnolkbobfaaTotals.lean).
  GIVEN WITH THE SEED: the statements are not yours to turn. If you find one false, say at which input.
  Laid BY PROGRAM, IN A SANDBOX (cutbox-rows.mjs): the forced cells as the released guide's own fill.sh prints them over the translation 6746a864d2b24512… (all of the seat's roots in one cut). By AI agents, Wed Nov 11 2026. No macro, syntax, notation, axiom, sorry.
-/
import Derived.Test.YtppcmnolkbobfaaChecked
import GoSem.Claim
import GoSem.ClaimJoined
import GoSem.ClaimMapViews
import Derived.JoinedTies
import Derived.KernelRfl
namespace Go.Proofs.Ytppcmnolkbobfaa
/- THE CELL 'sum', in the pinned program and in every row, IS THE sha256 OF THE DUMP (.gsa) THAT YtppcmnolkbobfaaProg.lean LOADS. Nothing in Lean hashes anything: it is a label: what it is worth is what the hold of that sum in a sandbox is worth. -/
noncomputable def Try.pinned : Pinned := { name := "ytppcmnolkbobfaa", sum := "6746a864d2b245125ce36208ec13c5b099ce3c2b051f9efec2dc4f28d9d0f146", checked := Try.checked }
namespace Rows
def none {H : Type} : Left H := { results := [], args := [] }

/-- 'laws.FnDrifts': WHATEVER THE INPUT: true; the input reads as it did. -/
def fnDriftsSpec : ChangeSpec := { name := "fnDrifts", fn := fun _ => fun
  | [d1, d2] => { results := [.lit (.bool true)], args := [d1, d2] }
  | _ => none }
def fnDriftsRow : OpenClaim := { program := "ytppcmnolkbobfaa", sum := "6746a864d2b245125ce36208ec13c5b099ce3c2b051f9efec2dc4f28d9d0f146", func := "loop.example/g00912/laws.FnDrifts", spec := "fnDrifts", apart := false }
def FnDriftsSaid : Prop := fnDriftsRow.holds Try.pinned (OpenSpec.ofChange fnDriftsSpec)

/-- ITS FALSE NEIGHBOUR: 'it returns false'. Refute it at one input. -/
def fnDriftsWrong : ChangeSpec := { name := "fnDrifts", fn := fun _ => fun
  | [d1, d2] => { results := [.lit (.bool false)], args := [d1, d2] }
  | _ => none }
def FnDriftsWrongFalsely : Prop := fnDriftsRow.holds Try.pinned (OpenSpec.ofChange fnDriftsWrong)

/-- 'laws.FnChains': WHATEVER THE INPUT: true; the input reads as it did. -/
def fnChainsSpec : ChangeSpec := { name := "fnChains", fn := fun _ => fun
  | [d1, d2] => { results := [.lit (.bool true)], args := [d1, d2] }
  | _ => none }
def fnChainsRow : OpenClaim := { program := "ytppcmnolkbobfaa", sum := "6746a864d2b245125ce36208ec13c5b099ce3c2b051f9efec2dc4f28d9d0f146", func := "loop.example/g00912/laws.FnChains", spec := "fnChains", apart := false }
def FnChainsSaid : Prop := fnChainsRow.holds Try.pinned (OpenSpec.ofChange fnChainsSpec)

/-- ITS FALSE NEIGHBOUR: 'it returns false'. Refute it at one input. -/
def fnChainsWrong : ChangeSpec := { name := "fnChains", fn := fun _ => fun
  | [d1, d2] => { results := [.lit (.bool false)], args := [d1, d2] }
  | _ => none }
def FnChainsWrongFalsely : Prop := fnChainsRow.holds Try.pinned (OpenSpec.ofChange fnChainsWrong)

/-- 'laws.FnTimes': WHATEVER THE INPUT: true; the input reads as it did. -/
def fnTimesSpec : ChangeSpec := { name := "fnTimes", fn := fun _ => fun
  | [d1, d2] => { results := [.lit (.bool true)], args := [d1, d2] }
  | _ => none }
def fnTimesRow : OpenClaim := { program := "ytppcmnolkbobfaa", sum := "6746a864d2b245125ce36208ec13c5b099ce3c2b051f9efec2dc4f28d9d0f146", func := "loop.example/g00912/laws.FnTimes", spec := "fnTimes", unfollowed := true, recurses := true, apart := false }
def FnTimesSaid : Prop := fnTimesRow.holds Try.pinned (OpenSpec.ofChange fnTimesSpec)

/-- ITS FALSE NEIGHBOUR: 'it returns false'. Refute it at one input. -/
def fnTimesWrong : ChangeSpec := { name := "fnTimes", fn := fun _ => fun
  | [d1, d2] => { results := [.lit (.bool false)], args := [d1, d2] }
  | _ => none }
def FnTimesWrongFalsely : Prop := fnTimesRow.holds Try.pinned (OpenSpec.ofChange fnTimesWrong)

/-- 'laws.FnDelays': WHATEVER THE INPUT: true; the input reads as it did. -/
def fnDelaysSpec : ChangeSpec := { name := "fnDelays", fn := fun _ => fun
  | [d1, d2] => { results := [.lit (.bool true)], args := [d1, d2] }
  | _ => none }
def fnDelaysRow : OpenClaim := { program := "ytppcmnolkbobfaa", sum := "6746a864d2b245125ce36208ec13c5b099ce3c2b051f9efec2dc4f28d9d0f146", func := "loop.example/g00912/laws.FnDelays", spec := "fnDelays", unfollowed := true, recurses := true, apart := false }
def FnDelaysSaid : Prop := fnDelaysRow.holds Try.pinned (OpenSpec.ofChange fnDelaysSpec)

/-- ITS FALSE NEIGHBOUR: 'it returns false'. Refute it at one input. -/
def fnDelaysWrong : ChangeSpec := { name := "fnDelays", fn := fun _ => fun
  | [d1, d2] => { results := [.lit (.bool false)], args := [d1, d2] }
  | _ => none }
def FnDelaysWrongFalsely : Prop := fnDelaysRow.holds Try.pinned (OpenSpec.ofChange fnDelaysWrong)

/-- 'laws.FnExactCountPanels': WHATEVER THE INPUT: true; the input reads as it did. -/
def fnExactCountPanelsSpec : ChangeSpec := { name := "fnExactCountPanels", fn := fun _ => fun
  | [d1, d2, d3, d4, d5] => { results := [.lit (.bool true)], args := [d1, d2, d3, d4, d5] }
  | _ => none }
def fnExactCountPanelsRow : OpenClaim := { program := "ytppcmnolkbobfaa", sum := "6746a864d2b245125ce36208ec13c5b099ce3c2b051f9efec2dc4f28d9d0f146", func := "loop.example/g00912/laws.FnExactCountPanels", spec := "fnExactCountPanels", unfollowed := true, recurses := true, apart := false }
def FnExactCountPanelsSaid : Prop := fnExactCountPanelsRow.holds Try.pinned (OpenSpec.ofChange fnExactCountPanelsSpec)

/-- ITS FALSE NEIGHBOUR: 'it returns false'. Refute it at one input. -/
def fnExactCountPanelsWrong : ChangeSpec := { name := "fnExactCountPanels", fn := fun _ => fun
  | [d1, d2, d3, d4, d5] => { results := [.lit (.bool false)], args := [d1, d2, d3, d4, d5] }
  | _ => none }
def FnExactCountPanelsWrongFalsely : Prop := fnExactCountPanelsRow.holds Try.pinned (OpenSpec.ofChange fnExactCountPanelsWrong)

/-- 'laws.FnDeviations': WHATEVER THE INPUT: true; the input reads as it did. -/
def fnDeviationsSpec : ChangeSpec := { name := "fnDeviations", fn := fun _ => fun
  | [d1, d2] => { results := [.lit (.bool true)], args := [d1, d2] }
  | _ => none }
def fnDeviationsRow : OpenClaim := { program := "ytppcmnolkbobfaa", sum := "6746a864d2b245125ce36208ec13c5b099ce3c2b051f9efec2dc4f28d9d0f146", func := "loop.example/g00912/laws.FnDeviations", spec := "fnDeviations", unfollowed := true, recurses := true, apart := false }
def FnDeviationsSaid : Prop := fnDeviationsRow.holds Try.pinned (OpenSpec.ofChange fnDeviationsSpec)

/-- ITS FALSE NEIGHBOUR: 'it returns false'. Refute it at one input. -/
def fnDeviationsWrong : ChangeSpec := { name := "fnDeviations", fn := fun _ => fun
  | [d1, d2] => { results := [.lit (.bool false)], args := [d1, d2] }
  | _ => none }
def FnDeviationsWrongFalsely : Prop := fnDeviationsRow.holds Try.pinned (OpenSpec.ofChange fnDeviationsWrong)

/- THE SECOND FORM. 'bulk': how many values and letters a reading holds, each counted each time it is reached (what is shared counts as often as it is met; a slice's spare places count too). A statement '..UptoSaid' is the law's where the arguments, and the package variables that the reading takes, are together of bulk at most 1048576: NARROWER than '..Said'. Prove '..Said' where nothing that the law and all that it calls make is longer than what came in: it says more and counts as full. Else prove '..UptoSaid'. A law counts once. -/
mutual
def uptoBulk {H : Type} : DataW H → Nat
  | .lit (.string bytes) => bytes.length + 1
  | .lit _ => 1
  | .nil => 1
  | .ptr d => uptoBulk d + 1
  | .slice elems spare => uptoBulkAll elems + uptoBulkAll spare + 1
  | .agg parts => uptoBulkAll parts + 1
  | .iface _ d => uptoBulk d + 1
  | .map entries => uptoBulkEntries entries + 1
  | .held _ => 1
def uptoBulkAll {H : Type} : List (DataW H) → Nat
  | [] => 0
  | d :: r => uptoBulk d + uptoBulkAll r
def uptoBulkEntries {H : Type} : List (Lit × DataW H) → Nat
  | [] => 0
  | x :: r => uptoBulkEntry x + uptoBulkEntries r
def uptoBulkEntry {H : Type} : Lit × DataW H → Nat
  | (.string bytes, d) => bytes.length + uptoBulk d + 1
  | (_, d) => uptoBulk d + 1
 end
def uptoSmall : (H : Type) → List (DataW H) → Bool := fun _ ds => decide (uptoBulkAll ds ≤ 1048576)
def OpenSpec.upto (s : _root_.Go.ChangeSpec) : _root_.Go.OpenSpec := { _root_.Go.OpenSpec.ofChange s with cond := some uptoSmall }

/-- 'laws.FnDrifts', WHERE WHAT IT READS IS OF BULK AT MOST 1048576: true; the input reads as it did. -/
def fnDriftsUptoRow : OpenClaim := { program := "ytppcmnolkbobfaa", sum := "6746a864d2b245125ce36208ec13c5b099ce3c2b051f9efec2dc4f28d9d0f146", func := "loop.example/g00912/laws.FnDrifts", spec := "fnDrifts", apart := false, narrowed := true }
def FnDriftsUptoSaid : Prop := fnDriftsUptoRow.holds Try.pinned (OpenSpec.upto fnDriftsSpec)

/-- 'laws.FnChains', WHERE WHAT IT READS IS OF BULK AT MOST 1048576: true; the input reads as it did. -/
def fnChainsUptoRow : OpenClaim := { program := "ytppcmnolkbobfaa", sum := "6746a864d2b245125ce36208ec13c5b099ce3c2b051f9efec2dc4f28d9d0f146", func := "loop.example/g00912/laws.FnChains", spec := "fnChains", apart := false, narrowed := true }
def FnChainsUptoSaid : Prop := fnChainsUptoRow.holds Try.pinned (OpenSpec.upto fnChainsSpec)

/-- 'laws.FnTimes', WHERE WHAT IT READS IS OF BULK AT MOST 1048576: true; the input reads as it did. -/
def fnTimesUptoRow : OpenClaim := { program := "ytppcmnolkbobfaa", sum := "6746a864d2b245125ce36208ec13c5b099ce3c2b051f9efec2dc4f28d9d0f146", func := "loop.example/g00912/laws.FnTimes", spec := "fnTimes", unfollowed := true, recurses := true, apart := false, narrowed := true }
def FnTimesUptoSaid : Prop := fnTimesUptoRow.holds Try.pinned (OpenSpec.upto fnTimesSpec)

/-- 'laws.FnDelays', WHERE WHAT IT READS IS OF BULK AT MOST 1048576: true; the input reads as it did. -/
def fnDelaysUptoRow : OpenClaim := { program := "ytppcmnolkbobfaa", sum := "6746a864d2b245125ce36208ec13c5b099ce3c2b051f9efec2dc4f28d9d0f146", func := "loop.example/g00912/laws.FnDelays", spec := "fnDelays", unfollowed := true, recurses := true, apart := false, narrowed := true }
def FnDelaysUptoSaid : Prop := fnDelaysUptoRow.holds Try.pinned (OpenSpec.upto fnDelaysSpec)

/-- 'laws.FnExactCountPanels', WHERE WHAT IT READS IS OF BULK AT MOST 1048576: true; the input reads as it did. -/
def fnExactCountPanelsUptoRow : OpenClaim := { program := "ytppcmnolkbobfaa", sum := "6746a864d2b245125ce36208ec13c5b099ce3c2b051f9efec2dc4f28d9d0f146", func := "loop.example/g00912/laws.FnExactCountPanels", spec := "fnExactCountPanels", unfollowed := true, recurses := true, apart := false, narrowed := true }
def FnExactCountPanelsUptoSaid : Prop := fnExactCountPanelsUptoRow.holds Try.pinned (OpenSpec.upto fnExactCountPanelsSpec)

/-- 'laws.FnDeviations', WHERE WHAT IT READS IS OF BULK AT MOST 1048576: true; the input reads as it did. -/
def fnDeviationsUptoRow : OpenClaim := { program := "ytppcmnolkbobfaa", sum := "6746a864d2b245125ce36208ec13c5b099ce3c2b051f9efec2dc4f28d9d0f146", func := "loop.example/g00912/laws.FnDeviations", spec := "fnDeviations", unfollowed := true, recurses := true, apart := false, narrowed := true }
def FnDeviationsUptoSaid : Prop := fnDeviationsUptoRow.holds Try.pinned (OpenSpec.upto fnDeviationsSpec)

end Rows
end Go.Proofs.Ytppcmnolkbobfaa
