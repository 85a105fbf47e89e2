/-
  No cell of these rows narrows 'for every input' (looked for: loops, veiled, ifaces, maps, wideKeys, modest, calm, conditions, laid).
  DERIVED. THE GIVEN ROWS OF THIS SEAT. 9 by the template 'for every input the law returns true; each argument reads behind the call as it read before'; 0 by the template 'total and deterministic' (their statements: YtdmaildajmhicaaTotals.lean).
  GIVEN WITH THE SEED: the statements are not yours to turn. If you find one false, say at which input.
  Laid BY PROGRAM, IN A SANDBOX (cutbox-rows.mjs): the forced cells as the released guide's own fill.sh prints them over the translation 4c343484dd45afb5… (all of the seat's roots in one cut). By AI agents, Wed Nov 11 2026. No macro, syntax, notation, axiom, sorry.
-/
import Derived.Test.YtdmaildajmhicaaChecked
import GoSem.Claim
import GoSem.ClaimJoined
import GoSem.ClaimMapViews
import Derived.JoinedTies
import Derived.KernelRfl
namespace Go.Proofs.Ytdmaildajmhicaa
/- THE CELL 'sum', in the pinned program and in every row, IS THE sha256 OF THE DUMP (.gsa) THAT YtdmaildajmhicaaProg.lean LOADS. Nothing in Lean hashes anything: it is a label: what it is worth is what the hold of that sum in a sandbox is worth. -/
noncomputable def Try.pinned : Pinned := { name := "ytdmaildajmhicaa", sum := "4c343484dd45afb5a47ba6d0ba04e720edebfe4802a848ffee24f6037ebc9150", checked := Try.checked }
namespace Rows
def none {H : Type} : Left H := { results := [], args := [] }

/-- 'laws.FnExactNextUp': WHATEVER THE INPUT: true; the input reads as it did. -/
def fnExactNextUpSpec : ChangeSpec := { name := "fnExactNextUp", fn := fun _ => fun
  | [d1, d2, d3] => { results := [.lit (.bool true)], args := [d1, d2, d3] }
  | _ => none }
def fnExactNextUpRow : OpenClaim := { program := "ytdmaildajmhicaa", sum := "4c343484dd45afb5a47ba6d0ba04e720edebfe4802a848ffee24f6037ebc9150", func := "loop.example/g00912/laws.FnExactNextUp", spec := "fnExactNextUp", unfollowed := true, recurses := true, apart := false }
def FnExactNextUpSaid : Prop := fnExactNextUpRow.holds Try.pinned (OpenSpec.ofChange fnExactNextUpSpec)

/-- ITS FALSE NEIGHBOUR: 'it returns false'. Refute it at one input. -/
def fnExactNextUpWrong : ChangeSpec := { name := "fnExactNextUp", fn := fun _ => fun
  | [d1, d2, d3] => { results := [.lit (.bool false)], args := [d1, d2, d3] }
  | _ => none }
def FnExactNextUpWrongFalsely : Prop := fnExactNextUpRow.holds Try.pinned (OpenSpec.ofChange fnExactNextUpWrong)

/-- 'laws.FnExactStillToCome': WHATEVER THE INPUT: true; the input reads as it did. -/
def fnExactStillToComeSpec : ChangeSpec := { name := "fnExactStillToCome", fn := fun _ => fun
  | [d1, d2, d3] => { results := [.lit (.bool true)], args := [d1, d2, d3] }
  | _ => none }
def fnExactStillToComeRow : OpenClaim := { program := "ytdmaildajmhicaa", sum := "4c343484dd45afb5a47ba6d0ba04e720edebfe4802a848ffee24f6037ebc9150", func := "loop.example/g00912/laws.FnExactStillToCome", spec := "fnExactStillToCome", unfollowed := true, recurses := true, apart := false }
def FnExactStillToComeSaid : Prop := fnExactStillToComeRow.holds Try.pinned (OpenSpec.ofChange fnExactStillToComeSpec)

/-- ITS FALSE NEIGHBOUR: 'it returns false'. Refute it at one input. -/
def fnExactStillToComeWrong : ChangeSpec := { name := "fnExactStillToCome", fn := fun _ => fun
  | [d1, d2, d3] => { results := [.lit (.bool false)], args := [d1, d2, d3] }
  | _ => none }
def FnExactStillToComeWrongFalsely : Prop := fnExactStillToComeRow.holds Try.pinned (OpenSpec.ofChange fnExactStillToComeWrong)

/-- 'laws.FnExactShownAt': WHATEVER THE INPUT: true; the input reads as it did. -/
def fnExactShownAtSpec : ChangeSpec := { name := "fnExactShownAt", fn := fun _ => fun
  | [d1, d2, d3] => { results := [.lit (.bool true)], args := [d1, d2, d3] }
  | _ => none }
def fnExactShownAtRow : OpenClaim := { program := "ytdmaildajmhicaa", sum := "4c343484dd45afb5a47ba6d0ba04e720edebfe4802a848ffee24f6037ebc9150", func := "loop.example/g00912/laws.FnExactShownAt", spec := "fnExactShownAt", unfollowed := true, recurses := true, apart := false }
def FnExactShownAtSaid : Prop := fnExactShownAtRow.holds Try.pinned (OpenSpec.ofChange fnExactShownAtSpec)

/-- ITS FALSE NEIGHBOUR: 'it returns false'. Refute it at one input. -/
def fnExactShownAtWrong : ChangeSpec := { name := "fnExactShownAt", fn := fun _ => fun
  | [d1, d2, d3] => { results := [.lit (.bool false)], args := [d1, d2, d3] }
  | _ => none }
def FnExactShownAtWrongFalsely : Prop := fnExactShownAtRow.holds Try.pinned (OpenSpec.ofChange fnExactShownAtWrong)

/-- 'laws.FnExactLeaderAt': WHATEVER THE INPUT: true; the input reads as it did. -/
def fnExactLeaderAtSpec : ChangeSpec := { name := "fnExactLeaderAt", fn := fun _ => fun
  | [d1, d2, d3, d4] => { results := [.lit (.bool true)], args := [d1, d2, d3, d4] }
  | _ => none }
def fnExactLeaderAtRow : OpenClaim := { program := "ytdmaildajmhicaa", sum := "4c343484dd45afb5a47ba6d0ba04e720edebfe4802a848ffee24f6037ebc9150", func := "loop.example/g00912/laws.FnExactLeaderAt", spec := "fnExactLeaderAt", unfollowed := true, recurses := true, apart := false }
def FnExactLeaderAtSaid : Prop := fnExactLeaderAtRow.holds Try.pinned (OpenSpec.ofChange fnExactLeaderAtSpec)

/-- ITS FALSE NEIGHBOUR: 'it returns false'. Refute it at one input. -/
def fnExactLeaderAtWrong : ChangeSpec := { name := "fnExactLeaderAt", fn := fun _ => fun
  | [d1, d2, d3, d4] => { results := [.lit (.bool false)], args := [d1, d2, d3, d4] }
  | _ => none }
def FnExactLeaderAtWrongFalsely : Prop := fnExactLeaderAtRow.holds Try.pinned (OpenSpec.ofChange fnExactLeaderAtWrong)

/-- 'laws.FnExactCuesOf': WHATEVER THE INPUT: true; the input reads as it did. -/
def fnExactCuesOfSpec : ChangeSpec := { name := "fnExactCuesOf", fn := fun _ => fun
  | [d1, d2] => { results := [.lit (.bool true)], args := [d1, d2] }
  | _ => none }
def fnExactCuesOfRow : OpenClaim := { program := "ytdmaildajmhicaa", sum := "4c343484dd45afb5a47ba6d0ba04e720edebfe4802a848ffee24f6037ebc9150", func := "loop.example/g00912/laws.FnExactCuesOf", spec := "fnExactCuesOf", unfollowed := true, recurses := true, apart := false }
def FnExactCuesOfSaid : Prop := fnExactCuesOfRow.holds Try.pinned (OpenSpec.ofChange fnExactCuesOfSpec)

/-- ITS FALSE NEIGHBOUR: 'it returns false'. Refute it at one input. -/
def fnExactCuesOfWrong : ChangeSpec := { name := "fnExactCuesOf", fn := fun _ => fun
  | [d1, d2] => { results := [.lit (.bool false)], args := [d1, d2] }
  | _ => none }
def FnExactCuesOfWrongFalsely : Prop := fnExactCuesOfRow.holds Try.pinned (OpenSpec.ofChange fnExactCuesOfWrong)

/-- 'laws.FnExactBoardAt': WHATEVER THE INPUT: true; the input reads as it did. -/
def fnExactBoardAtSpec : ChangeSpec := { name := "fnExactBoardAt", fn := fun _ => fun
  | [d1, d2, d3, d4] => { results := [.lit (.bool true)], args := [d1, d2, d3, d4] }
  | _ => none }
def fnExactBoardAtRow : OpenClaim := { program := "ytdmaildajmhicaa", sum := "4c343484dd45afb5a47ba6d0ba04e720edebfe4802a848ffee24f6037ebc9150", func := "loop.example/g00912/laws.FnExactBoardAt", spec := "fnExactBoardAt", unfollowed := true, recurses := true, apart := false }
def FnExactBoardAtSaid : Prop := fnExactBoardAtRow.holds Try.pinned (OpenSpec.ofChange fnExactBoardAtSpec)

/-- ITS FALSE NEIGHBOUR: 'it returns false'. Refute it at one input. -/
def fnExactBoardAtWrong : ChangeSpec := { name := "fnExactBoardAt", fn := fun _ => fun
  | [d1, d2, d3, d4] => { results := [.lit (.bool false)], args := [d1, d2, d3, d4] }
  | _ => none }
def FnExactBoardAtWrongFalsely : Prop := fnExactBoardAtRow.holds Try.pinned (OpenSpec.ofChange fnExactBoardAtWrong)

/-- 'laws.FnExactCuesBetween': WHATEVER THE INPUT: true; the input reads as it did. -/
def fnExactCuesBetweenSpec : ChangeSpec := { name := "fnExactCuesBetween", fn := fun _ => fun
  | [d1, d2, d3, d4] => { results := [.lit (.bool true)], args := [d1, d2, d3, d4] }
  | _ => none }
def fnExactCuesBetweenRow : OpenClaim := { program := "ytdmaildajmhicaa", sum := "4c343484dd45afb5a47ba6d0ba04e720edebfe4802a848ffee24f6037ebc9150", func := "loop.example/g00912/laws.FnExactCuesBetween", spec := "fnExactCuesBetween", unfollowed := true, recurses := true, apart := false }
def FnExactCuesBetweenSaid : Prop := fnExactCuesBetweenRow.holds Try.pinned (OpenSpec.ofChange fnExactCuesBetweenSpec)

/-- ITS FALSE NEIGHBOUR: 'it returns false'. Refute it at one input. -/
def fnExactCuesBetweenWrong : ChangeSpec := { name := "fnExactCuesBetween", fn := fun _ => fun
  | [d1, d2, d3, d4] => { results := [.lit (.bool false)], args := [d1, d2, d3, d4] }
  | _ => none }
def FnExactCuesBetweenWrongFalsely : Prop := fnExactCuesBetweenRow.holds Try.pinned (OpenSpec.ofChange fnExactCuesBetweenWrong)

/-- 'laws.FnExactLeaderTimes': WHATEVER THE INPUT: true; the input reads as it did. -/
def fnExactLeaderTimesSpec : ChangeSpec := { name := "fnExactLeaderTimes", fn := fun _ => fun
  | [d1, d2, d3] => { results := [.lit (.bool true)], args := [d1, d2, d3] }
  | _ => none }
def fnExactLeaderTimesRow : OpenClaim := { program := "ytdmaildajmhicaa", sum := "4c343484dd45afb5a47ba6d0ba04e720edebfe4802a848ffee24f6037ebc9150", func := "loop.example/g00912/laws.FnExactLeaderTimes", spec := "fnExactLeaderTimes", unfollowed := true, recurses := true, apart := false }
def FnExactLeaderTimesSaid : Prop := fnExactLeaderTimesRow.holds Try.pinned (OpenSpec.ofChange fnExactLeaderTimesSpec)

/-- ITS FALSE NEIGHBOUR: 'it returns false'. Refute it at one input. -/
def fnExactLeaderTimesWrong : ChangeSpec := { name := "fnExactLeaderTimes", fn := fun _ => fun
  | [d1, d2, d3] => { results := [.lit (.bool false)], args := [d1, d2, d3] }
  | _ => none }
def FnExactLeaderTimesWrongFalsely : Prop := fnExactLeaderTimesRow.holds Try.pinned (OpenSpec.ofChange fnExactLeaderTimesWrong)

/-- 'laws.FnBoards': WHATEVER THE INPUT: true; the input reads as it did. -/
def fnBoardsSpec : ChangeSpec := { name := "fnBoards", fn := fun _ => fun
  | [d1, d2] => { results := [.lit (.bool true)], args := [d1, d2] }
  | _ => none }
def fnBoardsRow : OpenClaim := { program := "ytdmaildajmhicaa", sum := "4c343484dd45afb5a47ba6d0ba04e720edebfe4802a848ffee24f6037ebc9150", func := "loop.example/g00912/laws.FnBoards", spec := "fnBoards", unfollowed := true, recurses := true, apart := false }
def FnBoardsSaid : Prop := fnBoardsRow.holds Try.pinned (OpenSpec.ofChange fnBoardsSpec)

/-- ITS FALSE NEIGHBOUR: 'it returns false'. Refute it at one input. -/
def fnBoardsWrong : ChangeSpec := { name := "fnBoards", fn := fun _ => fun
  | [d1, d2] => { results := [.lit (.bool false)], args := [d1, d2] }
  | _ => none }
def FnBoardsWrongFalsely : Prop := fnBoardsRow.holds Try.pinned (OpenSpec.ofChange fnBoardsWrong)

/- THE SECOND FORM. 'bulk': how many values and letters a reading holds, each counted each time it is reached (what is shared counts as often as it is met; a slice's spare places count too). A statement '..UptoSaid' is the law's where the arguments, and the package variables that the reading takes, are together of bulk at most 1048576: NARROWER than '..Said'. Prove '..Said' where nothing that the law and all that it calls make is longer than what came in: it says more and counts as full. Else prove '..UptoSaid'. A law counts once. -/
mutual
def uptoBulk {H : Type} : DataW H → Nat
  | .lit (.string bytes) => bytes.length + 1
  | .lit _ => 1
  | .nil => 1
  | .ptr d => uptoBulk d + 1
  | .slice elems spare => uptoBulkAll elems + uptoBulkAll spare + 1
  | .agg parts => uptoBulkAll parts + 1
  | .iface _ d => uptoBulk d + 1
  | .map entries => uptoBulkEntries entries + 1
  | .held _ => 1
def uptoBulkAll {H : Type} : List (DataW H) → Nat
  | [] => 0
  | d :: r => uptoBulk d + uptoBulkAll r
def uptoBulkEntries {H : Type} : List (Lit × DataW H) → Nat
  | [] => 0
  | x :: r => uptoBulkEntry x + uptoBulkEntries r
def uptoBulkEntry {H : Type} : Lit × DataW H → Nat
  | (.string bytes, d) => bytes.length + uptoBulk d + 1
  | (_, d) => uptoBulk d + 1
 end
def uptoSmall : (H : Type) → List (DataW H) → Bool := fun _ ds => decide (uptoBulkAll ds ≤ 1048576)
def OpenSpec.upto (s : _root_.Go.ChangeSpec) : _root_.Go.OpenSpec := { _root_.Go.OpenSpec.ofChange s with cond := some uptoSmall }

/-- 'laws.FnExactNextUp', WHERE WHAT IT READS IS OF BULK AT MOST 1048576: true; the input reads as it did. -/
def fnExactNextUpUptoRow : OpenClaim := { program := "ytdmaildajmhicaa", sum := "4c343484dd45afb5a47ba6d0ba04e720edebfe4802a848ffee24f6037ebc9150", func := "loop.example/g00912/laws.FnExactNextUp", spec := "fnExactNextUp", unfollowed := true, recurses := true, apart := false, narrowed := true }
def FnExactNextUpUptoSaid : Prop := fnExactNextUpUptoRow.holds Try.pinned (OpenSpec.upto fnExactNextUpSpec)

/-- 'laws.FnExactStillToCome', WHERE WHAT IT READS IS OF BULK AT MOST 1048576: true; the input reads as it did. -/
def fnExactStillToComeUptoRow : OpenClaim := { program := "ytdmaildajmhicaa", sum := "4c343484dd45afb5a47ba6d0ba04e720edebfe4802a848ffee24f6037ebc9150", func := "loop.example/g00912/laws.FnExactStillToCome", spec := "fnExactStillToCome", unfollowed := true, recurses := true, apart := false, narrowed := true }
def FnExactStillToComeUptoSaid : Prop := fnExactStillToComeUptoRow.holds Try.pinned (OpenSpec.upto fnExactStillToComeSpec)

/-- 'laws.FnExactShownAt', WHERE WHAT IT READS IS OF BULK AT MOST 1048576: true; the input reads as it did. -/
def fnExactShownAtUptoRow : OpenClaim := { program := "ytdmaildajmhicaa", sum := "4c343484dd45afb5a47ba6d0ba04e720edebfe4802a848ffee24f6037ebc9150", func := "loop.example/g00912/laws.FnExactShownAt", spec := "fnExactShownAt", unfollowed := true, recurses := true, apart := false, narrowed := true }
def FnExactShownAtUptoSaid : Prop := fnExactShownAtUptoRow.holds Try.pinned (OpenSpec.upto fnExactShownAtSpec)

/-- 'laws.FnExactLeaderAt', WHERE WHAT IT READS IS OF BULK AT MOST 1048576: true; the input reads as it did. -/
def fnExactLeaderAtUptoRow : OpenClaim := { program := "ytdmaildajmhicaa", sum := "4c343484dd45afb5a47ba6d0ba04e720edebfe4802a848ffee24f6037ebc9150", func := "loop.example/g00912/laws.FnExactLeaderAt", spec := "fnExactLeaderAt", unfollowed := true, recurses := true, apart := false, narrowed := true }
def FnExactLeaderAtUptoSaid : Prop := fnExactLeaderAtUptoRow.holds Try.pinned (OpenSpec.upto fnExactLeaderAtSpec)

/-- 'laws.FnExactCuesOf', WHERE WHAT IT READS IS OF BULK AT MOST 1048576: true; the input reads as it did. -/
def fnExactCuesOfUptoRow : OpenClaim := { program := "ytdmaildajmhicaa", sum := "4c343484dd45afb5a47ba6d0ba04e720edebfe4802a848ffee24f6037ebc9150", func := "loop.example/g00912/laws.FnExactCuesOf", spec := "fnExactCuesOf", unfollowed := true, recurses := true, apart := false, narrowed := true }
def FnExactCuesOfUptoSaid : Prop := fnExactCuesOfUptoRow.holds Try.pinned (OpenSpec.upto fnExactCuesOfSpec)

/-- 'laws.FnExactBoardAt', WHERE WHAT IT READS IS OF BULK AT MOST 1048576: true; the input reads as it did. -/
def fnExactBoardAtUptoRow : OpenClaim := { program := "ytdmaildajmhicaa", sum := "4c343484dd45afb5a47ba6d0ba04e720edebfe4802a848ffee24f6037ebc9150", func := "loop.example/g00912/laws.FnExactBoardAt", spec := "fnExactBoardAt", unfollowed := true, recurses := true, apart := false, narrowed := true }
def FnExactBoardAtUptoSaid : Prop := fnExactBoardAtUptoRow.holds Try.pinned (OpenSpec.upto fnExactBoardAtSpec)

/-- 'laws.FnExactCuesBetween', WHERE WHAT IT READS IS OF BULK AT MOST 1048576: true; the input reads as it did. -/
def fnExactCuesBetweenUptoRow : OpenClaim := { program := "ytdmaildajmhicaa", sum := "4c343484dd45afb5a47ba6d0ba04e720edebfe4802a848ffee24f6037ebc9150", func := "loop.example/g00912/laws.FnExactCuesBetween", spec := "fnExactCuesBetween", unfollowed := true, recurses := true, apart := false, narrowed := true }
def FnExactCuesBetweenUptoSaid : Prop := fnExactCuesBetweenUptoRow.holds Try.pinned (OpenSpec.upto fnExactCuesBetweenSpec)

/-- 'laws.FnExactLeaderTimes', WHERE WHAT IT READS IS OF BULK AT MOST 1048576: true; the input reads as it did. -/
def fnExactLeaderTimesUptoRow : OpenClaim := { program := "ytdmaildajmhicaa", sum := "4c343484dd45afb5a47ba6d0ba04e720edebfe4802a848ffee24f6037ebc9150", func := "loop.example/g00912/laws.FnExactLeaderTimes", spec := "fnExactLeaderTimes", unfollowed := true, recurses := true, apart := false, narrowed := true }
def FnExactLeaderTimesUptoSaid : Prop := fnExactLeaderTimesUptoRow.holds Try.pinned (OpenSpec.upto fnExactLeaderTimesSpec)

/-- 'laws.FnBoards', WHERE WHAT IT READS IS OF BULK AT MOST 1048576: true; the input reads as it did. -/
def fnBoardsUptoRow : OpenClaim := { program := "ytdmaildajmhicaa", sum := "4c343484dd45afb5a47ba6d0ba04e720edebfe4802a848ffee24f6037ebc9150", func := "loop.example/g00912/laws.FnBoards", spec := "fnBoards", unfollowed := true, recurses := true, apart := false, narrowed := true }
def FnBoardsUptoSaid : Prop := fnBoardsUptoRow.holds Try.pinned (OpenSpec.upto fnBoardsSpec)

end Rows
end Go.Proofs.Ytdmaildajmhicaa
