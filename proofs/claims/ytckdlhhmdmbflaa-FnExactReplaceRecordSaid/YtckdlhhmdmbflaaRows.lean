/-
  No cell of these rows narrows 'for every input' (looked for: loops, veiled, ifaces, maps, wideKeys, modest, calm, conditions, laid).
  DERIVED. THE GIVEN ROWS OF THIS SEAT. 9 by the template 'for every input the law returns true; each argument reads behind the call as it read before'; 0 by the template 'total and deterministic' (their statements: YtckdlhhmdmbflaaTotals.lean).
  GIVEN WITH THE SEED: the statements are not yours to turn. If you find one false, say at which input.
  Laid BY PROGRAM, IN A SANDBOX (cutbox-rows.mjs): the forced cells as the released guide's own fill.sh prints them over the translation 66fe0deaac0cbfef… (all of the seat's roots in one cut). By AI agents, Wed Nov 11 2026. No macro, syntax, notation, axiom, sorry.
-/
import Derived.Test.YtckdlhhmdmbflaaChecked
import GoSem.Claim
import GoSem.ClaimJoined
import GoSem.ClaimMapViews
import Derived.JoinedTies
import Derived.KernelRfl
namespace Go.Proofs.Ytckdlhhmdmbflaa
/- THE CELL 'sum', in the pinned program and in every row, IS THE sha256 OF THE DUMP (.gsa) THAT YtckdlhhmdmbflaaProg.lean LOADS. Nothing in Lean hashes anything: it is a label: what it is worth is what the hold of that sum in a sandbox is worth. -/
noncomputable def Try.pinned : Pinned := { name := "ytckdlhhmdmbflaa", sum := "66fe0deaac0cbfefd8bfeb4cf3bc3dd65d5ba3a9a106e465e33b9282fcd69ec4", checked := Try.checked }
namespace Rows
def none {H : Type} : Left H := { results := [], args := [] }

/-- 'laws.FnExactRecordDigest': WHATEVER THE INPUT: true; the input reads as it did. -/
def fnExactRecordDigestSpec : ChangeSpec := { name := "fnExactRecordDigest", fn := fun _ => fun
  | [d] => { results := [.lit (.bool true)], args := [d] }
  | _ => none }
def fnExactRecordDigestRow : OpenClaim := { program := "ytckdlhhmdmbflaa", sum := "66fe0deaac0cbfefd8bfeb4cf3bc3dd65d5ba3a9a106e465e33b9282fcd69ec4", func := "loop.example/g00912/laws.FnExactRecordDigest", spec := "fnExactRecordDigest", apart := false }
def FnExactRecordDigestSaid : Prop := fnExactRecordDigestRow.holds Try.pinned (OpenSpec.ofChange fnExactRecordDigestSpec)

/-- ITS FALSE NEIGHBOUR: 'it returns false'. Refute it at one input. -/
def fnExactRecordDigestWrong : ChangeSpec := { name := "fnExactRecordDigest", fn := fun _ => fun
  | [d] => { results := [.lit (.bool false)], args := [d] }
  | _ => none }
def FnExactRecordDigestWrongFalsely : Prop := fnExactRecordDigestRow.holds Try.pinned (OpenSpec.ofChange fnExactRecordDigestWrong)

/-- 'laws.FnExactLinkOf': WHATEVER THE INPUT: true; the input reads as it did. -/
def fnExactLinkOfSpec : ChangeSpec := { name := "fnExactLinkOf", fn := fun _ => fun
  | [d1, d2] => { results := [.lit (.bool true)], args := [d1, d2] }
  | _ => none }
def fnExactLinkOfRow : OpenClaim := { program := "ytckdlhhmdmbflaa", sum := "66fe0deaac0cbfefd8bfeb4cf3bc3dd65d5ba3a9a106e465e33b9282fcd69ec4", func := "loop.example/g00912/laws.FnExactLinkOf", spec := "fnExactLinkOf", apart := false }
def FnExactLinkOfSaid : Prop := fnExactLinkOfRow.holds Try.pinned (OpenSpec.ofChange fnExactLinkOfSpec)

/-- ITS FALSE NEIGHBOUR: 'it returns false'. Refute it at one input. -/
def fnExactLinkOfWrong : ChangeSpec := { name := "fnExactLinkOf", fn := fun _ => fun
  | [d1, d2] => { results := [.lit (.bool false)], args := [d1, d2] }
  | _ => none }
def FnExactLinkOfWrongFalsely : Prop := fnExactLinkOfRow.holds Try.pinned (OpenSpec.ofChange fnExactLinkOfWrong)

/-- 'laws.FnExactBranchOf': WHATEVER THE INPUT: true; the input reads as it did. -/
def fnExactBranchOfSpec : ChangeSpec := { name := "fnExactBranchOf", fn := fun _ => fun
  | [d1, d2] => { results := [.lit (.bool true)], args := [d1, d2] }
  | _ => none }
def fnExactBranchOfRow : OpenClaim := { program := "ytckdlhhmdmbflaa", sum := "66fe0deaac0cbfefd8bfeb4cf3bc3dd65d5ba3a9a106e465e33b9282fcd69ec4", func := "loop.example/g00912/laws.FnExactBranchOf", spec := "fnExactBranchOf", apart := false }
def FnExactBranchOfSaid : Prop := fnExactBranchOfRow.holds Try.pinned (OpenSpec.ofChange fnExactBranchOfSpec)

/-- ITS FALSE NEIGHBOUR: 'it returns false'. Refute it at one input. -/
def fnExactBranchOfWrong : ChangeSpec := { name := "fnExactBranchOf", fn := fun _ => fun
  | [d1, d2] => { results := [.lit (.bool false)], args := [d1, d2] }
  | _ => none }
def FnExactBranchOfWrongFalsely : Prop := fnExactBranchOfRow.holds Try.pinned (OpenSpec.ofChange fnExactBranchOfWrong)

/-- 'laws.FnExactExtendChain': WHATEVER THE INPUT: true; the input reads as it did. -/
def fnExactExtendChainSpec : ChangeSpec := { name := "fnExactExtendChain", fn := fun _ => fun
  | [d1, d2] => { results := [.lit (.bool true)], args := [d1, d2] }
  | _ => none }
def fnExactExtendChainRow : OpenClaim := { program := "ytckdlhhmdmbflaa", sum := "66fe0deaac0cbfefd8bfeb4cf3bc3dd65d5ba3a9a106e465e33b9282fcd69ec4", func := "loop.example/g00912/laws.FnExactExtendChain", spec := "fnExactExtendChain", apart := false }
def FnExactExtendChainSaid : Prop := fnExactExtendChainRow.holds Try.pinned (OpenSpec.ofChange fnExactExtendChainSpec)

/-- ITS FALSE NEIGHBOUR: 'it returns false'. Refute it at one input. -/
def fnExactExtendChainWrong : ChangeSpec := { name := "fnExactExtendChain", fn := fun _ => fun
  | [d1, d2] => { results := [.lit (.bool false)], args := [d1, d2] }
  | _ => none }
def FnExactExtendChainWrongFalsely : Prop := fnExactExtendChainRow.holds Try.pinned (OpenSpec.ofChange fnExactExtendChainWrong)

/-- 'laws.FnExactFirstDamage': WHATEVER THE INPUT: true; the input reads as it did. -/
def fnExactFirstDamageSpec : ChangeSpec := { name := "fnExactFirstDamage", fn := fun _ => fun
  | [d1, d2] => { results := [.lit (.bool true)], args := [d1, d2] }
  | _ => none }
def fnExactFirstDamageRow : OpenClaim := { program := "ytckdlhhmdmbflaa", sum := "66fe0deaac0cbfefd8bfeb4cf3bc3dd65d5ba3a9a106e465e33b9282fcd69ec4", func := "loop.example/g00912/laws.FnExactFirstDamage", spec := "fnExactFirstDamage", apart := false }
def FnExactFirstDamageSaid : Prop := fnExactFirstDamageRow.holds Try.pinned (OpenSpec.ofChange fnExactFirstDamageSpec)

/-- ITS FALSE NEIGHBOUR: 'it returns false'. Refute it at one input. -/
def fnExactFirstDamageWrong : ChangeSpec := { name := "fnExactFirstDamage", fn := fun _ => fun
  | [d1, d2] => { results := [.lit (.bool false)], args := [d1, d2] }
  | _ => none }
def FnExactFirstDamageWrongFalsely : Prop := fnExactFirstDamageRow.holds Try.pinned (OpenSpec.ofChange fnExactFirstDamageWrong)

/-- 'laws.FnExactChainOf': WHATEVER THE INPUT: true; the input reads as it did. -/
def fnExactChainOfSpec : ChangeSpec := { name := "fnExactChainOf", fn := fun _ => fun
  | [d] => { results := [.lit (.bool true)], args := [d] }
  | _ => none }
def fnExactChainOfRow : OpenClaim := { program := "ytckdlhhmdmbflaa", sum := "66fe0deaac0cbfefd8bfeb4cf3bc3dd65d5ba3a9a106e465e33b9282fcd69ec4", func := "loop.example/g00912/laws.FnExactChainOf", spec := "fnExactChainOf", apart := false }
def FnExactChainOfSaid : Prop := fnExactChainOfRow.holds Try.pinned (OpenSpec.ofChange fnExactChainOfSpec)

/-- ITS FALSE NEIGHBOUR: 'it returns false'. Refute it at one input. -/
def fnExactChainOfWrong : ChangeSpec := { name := "fnExactChainOf", fn := fun _ => fun
  | [d] => { results := [.lit (.bool false)], args := [d] }
  | _ => none }
def FnExactChainOfWrongFalsely : Prop := fnExactChainOfRow.holds Try.pinned (OpenSpec.ofChange fnExactChainOfWrong)

/-- 'laws.FnExactReplaceRecord': WHATEVER THE INPUT: true; the input reads as it did. -/
def fnExactReplaceRecordSpec : ChangeSpec := { name := "fnExactReplaceRecord", fn := fun _ => fun
  | [d1, d2, d3] => { results := [.lit (.bool true)], args := [d1, d2, d3] }
  | _ => none }
def fnExactReplaceRecordRow : OpenClaim := { program := "ytckdlhhmdmbflaa", sum := "66fe0deaac0cbfefd8bfeb4cf3bc3dd65d5ba3a9a106e465e33b9282fcd69ec4", func := "loop.example/g00912/laws.FnExactReplaceRecord", spec := "fnExactReplaceRecord", apart := false }
def FnExactReplaceRecordSaid : Prop := fnExactReplaceRecordRow.holds Try.pinned (OpenSpec.ofChange fnExactReplaceRecordSpec)

/-- ITS FALSE NEIGHBOUR: 'it returns false'. Refute it at one input. -/
def fnExactReplaceRecordWrong : ChangeSpec := { name := "fnExactReplaceRecord", fn := fun _ => fun
  | [d1, d2, d3] => { results := [.lit (.bool false)], args := [d1, d2, d3] }
  | _ => none }
def FnExactReplaceRecordWrongFalsely : Prop := fnExactReplaceRecordRow.holds Try.pinned (OpenSpec.ofChange fnExactReplaceRecordWrong)

/-- 'laws.FnExactJoinChains': WHATEVER THE INPUT: true; the input reads as it did. -/
def fnExactJoinChainsSpec : ChangeSpec := { name := "fnExactJoinChains", fn := fun _ => fun
  | [d1, d2] => { results := [.lit (.bool true)], args := [d1, d2] }
  | _ => none }
def fnExactJoinChainsRow : OpenClaim := { program := "ytckdlhhmdmbflaa", sum := "66fe0deaac0cbfefd8bfeb4cf3bc3dd65d5ba3a9a106e465e33b9282fcd69ec4", func := "loop.example/g00912/laws.FnExactJoinChains", spec := "fnExactJoinChains", apart := false }
def FnExactJoinChainsSaid : Prop := fnExactJoinChainsRow.holds Try.pinned (OpenSpec.ofChange fnExactJoinChainsSpec)

/-- ITS FALSE NEIGHBOUR: 'it returns false'. Refute it at one input. -/
def fnExactJoinChainsWrong : ChangeSpec := { name := "fnExactJoinChains", fn := fun _ => fun
  | [d1, d2] => { results := [.lit (.bool false)], args := [d1, d2] }
  | _ => none }
def FnExactJoinChainsWrongFalsely : Prop := fnExactJoinChainsRow.holds Try.pinned (OpenSpec.ofChange fnExactJoinChainsWrong)

/-- 'laws.FnChains': WHATEVER THE INPUT: true; the input reads as it did. -/
def fnChainsSpec : ChangeSpec := { name := "fnChains", fn := fun _ => fun
  | [d1, d2] => { results := [.lit (.bool true)], args := [d1, d2] }
  | _ => none }
def fnChainsRow : OpenClaim := { program := "ytckdlhhmdmbflaa", sum := "66fe0deaac0cbfefd8bfeb4cf3bc3dd65d5ba3a9a106e465e33b9282fcd69ec4", func := "loop.example/g00912/laws.FnChains", spec := "fnChains", apart := false }
def FnChainsSaid : Prop := fnChainsRow.holds Try.pinned (OpenSpec.ofChange fnChainsSpec)

/-- ITS FALSE NEIGHBOUR: 'it returns false'. Refute it at one input. -/
def fnChainsWrong : ChangeSpec := { name := "fnChains", fn := fun _ => fun
  | [d1, d2] => { results := [.lit (.bool false)], args := [d1, d2] }
  | _ => none }
def FnChainsWrongFalsely : Prop := fnChainsRow.holds Try.pinned (OpenSpec.ofChange fnChainsWrong)

/- THE SECOND FORM. 'bulk': how many values and letters a reading holds, each counted each time it is reached (what is shared counts as often as it is met; a slice's spare places count too). A statement '..UptoSaid' is the law's where the arguments, and the package variables that the reading takes, are together of bulk at most 1048576: NARROWER than '..Said'. Prove '..Said' where nothing that the law and all that it calls make is longer than what came in: it says more and counts as full. Else prove '..UptoSaid'. A law counts once. -/
mutual
def uptoBulk {H : Type} : DataW H → Nat
  | .lit (.string bytes) => bytes.length + 1
  | .lit _ => 1
  | .nil => 1
  | .ptr d => uptoBulk d + 1
  | .slice elems spare => uptoBulkAll elems + uptoBulkAll spare + 1
  | .agg parts => uptoBulkAll parts + 1
  | .iface _ d => uptoBulk d + 1
  | .map entries => uptoBulkEntries entries + 1
  | .held _ => 1
def uptoBulkAll {H : Type} : List (DataW H) → Nat
  | [] => 0
  | d :: r => uptoBulk d + uptoBulkAll r
def uptoBulkEntries {H : Type} : List (Lit × DataW H) → Nat
  | [] => 0
  | x :: r => uptoBulkEntry x + uptoBulkEntries r
def uptoBulkEntry {H : Type} : Lit × DataW H → Nat
  | (.string bytes, d) => bytes.length + uptoBulk d + 1
  | (_, d) => uptoBulk d + 1
 end
def uptoSmall : (H : Type) → List (DataW H) → Bool := fun _ ds => decide (uptoBulkAll ds ≤ 1048576)
def OpenSpec.upto (s : _root_.Go.ChangeSpec) : _root_.Go.OpenSpec := { _root_.Go.OpenSpec.ofChange s with cond := some uptoSmall }

/-- 'laws.FnExactRecordDigest', WHERE WHAT IT READS IS OF BULK AT MOST 1048576: true; the input reads as it did. -/
def fnExactRecordDigestUptoRow : OpenClaim := { program := "ytckdlhhmdmbflaa", sum := "66fe0deaac0cbfefd8bfeb4cf3bc3dd65d5ba3a9a106e465e33b9282fcd69ec4", func := "loop.example/g00912/laws.FnExactRecordDigest", spec := "fnExactRecordDigest", apart := false, narrowed := true }
def FnExactRecordDigestUptoSaid : Prop := fnExactRecordDigestUptoRow.holds Try.pinned (OpenSpec.upto fnExactRecordDigestSpec)

/-- 'laws.FnExactLinkOf', WHERE WHAT IT READS IS OF BULK AT MOST 1048576: true; the input reads as it did. -/
def fnExactLinkOfUptoRow : OpenClaim := { program := "ytckdlhhmdmbflaa", sum := "66fe0deaac0cbfefd8bfeb4cf3bc3dd65d5ba3a9a106e465e33b9282fcd69ec4", func := "loop.example/g00912/laws.FnExactLinkOf", spec := "fnExactLinkOf", apart := false, narrowed := true }
def FnExactLinkOfUptoSaid : Prop := fnExactLinkOfUptoRow.holds Try.pinned (OpenSpec.upto fnExactLinkOfSpec)

/-- 'laws.FnExactBranchOf', WHERE WHAT IT READS IS OF BULK AT MOST 1048576: true; the input reads as it did. -/
def fnExactBranchOfUptoRow : OpenClaim := { program := "ytckdlhhmdmbflaa", sum := "66fe0deaac0cbfefd8bfeb4cf3bc3dd65d5ba3a9a106e465e33b9282fcd69ec4", func := "loop.example/g00912/laws.FnExactBranchOf", spec := "fnExactBranchOf", apart := false, narrowed := true }
def FnExactBranchOfUptoSaid : Prop := fnExactBranchOfUptoRow.holds Try.pinned (OpenSpec.upto fnExactBranchOfSpec)

/-- 'laws.FnExactExtendChain', WHERE WHAT IT READS IS OF BULK AT MOST 1048576: true; the input reads as it did. -/
def fnExactExtendChainUptoRow : OpenClaim := { program := "ytckdlhhmdmbflaa", sum := "66fe0deaac0cbfefd8bfeb4cf3bc3dd65d5ba3a9a106e465e33b9282fcd69ec4", func := "loop.example/g00912/laws.FnExactExtendChain", spec := "fnExactExtendChain", apart := false, narrowed := true }
def FnExactExtendChainUptoSaid : Prop := fnExactExtendChainUptoRow.holds Try.pinned (OpenSpec.upto fnExactExtendChainSpec)

/-- 'laws.FnExactFirstDamage', WHERE WHAT IT READS IS OF BULK AT MOST 1048576: true; the input reads as it did. -/
def fnExactFirstDamageUptoRow : OpenClaim := { program := "ytckdlhhmdmbflaa", sum := "66fe0deaac0cbfefd8bfeb4cf3bc3dd65d5ba3a9a106e465e33b9282fcd69ec4", func := "loop.example/g00912/laws.FnExactFirstDamage", spec := "fnExactFirstDamage", apart := false, narrowed := true }
def FnExactFirstDamageUptoSaid : Prop := fnExactFirstDamageUptoRow.holds Try.pinned (OpenSpec.upto fnExactFirstDamageSpec)

/-- 'laws.FnExactChainOf', WHERE WHAT IT READS IS OF BULK AT MOST 1048576: true; the input reads as it did. -/
def fnExactChainOfUptoRow : OpenClaim := { program := "ytckdlhhmdmbflaa", sum := "66fe0deaac0cbfefd8bfeb4cf3bc3dd65d5ba3a9a106e465e33b9282fcd69ec4", func := "loop.example/g00912/laws.FnExactChainOf", spec := "fnExactChainOf", apart := false, narrowed := true }
def FnExactChainOfUptoSaid : Prop := fnExactChainOfUptoRow.holds Try.pinned (OpenSpec.upto fnExactChainOfSpec)

/-- 'laws.FnExactReplaceRecord', WHERE WHAT IT READS IS OF BULK AT MOST 1048576: true; the input reads as it did. -/
def fnExactReplaceRecordUptoRow : OpenClaim := { program := "ytckdlhhmdmbflaa", sum := "66fe0deaac0cbfefd8bfeb4cf3bc3dd65d5ba3a9a106e465e33b9282fcd69ec4", func := "loop.example/g00912/laws.FnExactReplaceRecord", spec := "fnExactReplaceRecord", apart := false, narrowed := true }
def FnExactReplaceRecordUptoSaid : Prop := fnExactReplaceRecordUptoRow.holds Try.pinned (OpenSpec.upto fnExactReplaceRecordSpec)

/-- 'laws.FnExactJoinChains', WHERE WHAT IT READS IS OF BULK AT MOST 1048576: true; the input reads as it did. -/
def fnExactJoinChainsUptoRow : OpenClaim := { program := "ytckdlhhmdmbflaa", sum := "66fe0deaac0cbfefd8bfeb4cf3bc3dd65d5ba3a9a106e465e33b9282fcd69ec4", func := "loop.example/g00912/laws.FnExactJoinChains", spec := "fnExactJoinChains", apart := false, narrowed := true }
def FnExactJoinChainsUptoSaid : Prop := fnExactJoinChainsUptoRow.holds Try.pinned (OpenSpec.upto fnExactJoinChainsSpec)

/-- 'laws.FnChains', WHERE WHAT IT READS IS OF BULK AT MOST 1048576: true; the input reads as it did. -/
def fnChainsUptoRow : OpenClaim := { program := "ytckdlhhmdmbflaa", sum := "66fe0deaac0cbfefd8bfeb4cf3bc3dd65d5ba3a9a106e465e33b9282fcd69ec4", func := "loop.example/g00912/laws.FnChains", spec := "fnChains", apart := false, narrowed := true }
def FnChainsUptoSaid : Prop := fnChainsUptoRow.holds Try.pinned (OpenSpec.upto fnChainsSpec)

end Rows
end Go.Proofs.Ytckdlhhmdmbflaa
