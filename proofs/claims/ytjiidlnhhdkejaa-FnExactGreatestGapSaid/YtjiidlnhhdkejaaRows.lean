/-
  No cell of these rows narrows 'for every input' (looked for: loops, veiled, ifaces, maps, wideKeys, modest, calm, conditions, laid).
  DERIVED. THE GIVEN ROWS OF THIS SEAT. 12 by the template 'for every input the law returns true; each argument reads behind the call as it read before'; 0 by the template 'total and deterministic' (their statements: YtjiidlnhhdkejaaTotals.lean).
  GIVEN WITH THE SEED: the statements are not yours to turn. If you find one false, say at which input.
  Laid BY PROGRAM, IN A SANDBOX (cutbox-rows.mjs): the forced cells as the released guide's own fill.sh prints them over the translation 9ff2957689eaa89b… (all of the seat's roots in one cut). By AI agents, Wed Nov 11 2026. No macro, syntax, notation, axiom, sorry.
-/
import Derived.Test.YtjiidlnhhdkejaaChecked
import GoSem.Claim
import GoSem.ClaimJoined
import GoSem.ClaimMapViews
import Derived.JoinedTies
import Derived.KernelRfl
namespace Go.Proofs.Ytjiidlnhhdkejaa
/- THE CELL 'sum', in the pinned program and in every row, IS THE sha256 OF THE DUMP (.gsa) THAT YtjiidlnhhdkejaaProg.lean LOADS. Nothing in Lean hashes anything: it is a label: what it is worth is what the hold of that sum in a sandbox is worth. -/
noncomputable def Try.pinned : Pinned := { name := "ytjiidlnhhdkejaa", sum := "9ff2957689eaa89b869f883bdf1c07175ac749297be8b2dd69d15a590bee581c", checked := Try.checked }
namespace Rows
def none {H : Type} : Left H := { results := [], args := [] }

/-- 'laws.FnExactIsDay': WHATEVER THE INPUT: true; the input reads as it did. -/
def fnExactIsDaySpec : ChangeSpec := { name := "fnExactIsDay", fn := fun _ => fun
  | [d] => { results := [.lit (.bool true)], args := [d] }
  | _ => none }
def fnExactIsDayRow : OpenClaim := { program := "ytjiidlnhhdkejaa", sum := "9ff2957689eaa89b869f883bdf1c07175ac749297be8b2dd69d15a590bee581c", func := "loop.example/g00912/laws.FnExactIsDay", spec := "fnExactIsDay", apart := false }
def FnExactIsDaySaid : Prop := fnExactIsDayRow.holds Try.pinned (OpenSpec.ofChange fnExactIsDaySpec)

/-- ITS FALSE NEIGHBOUR: 'it returns false'. Refute it at one input. -/
def fnExactIsDayWrong : ChangeSpec := { name := "fnExactIsDay", fn := fun _ => fun
  | [d] => { results := [.lit (.bool false)], args := [d] }
  | _ => none }
def FnExactIsDayWrongFalsely : Prop := fnExactIsDayRow.holds Try.pinned (OpenSpec.ofChange fnExactIsDayWrong)

/-- 'laws.FnExactMusicSlip': WHATEVER THE INPUT: true; the input reads as it did. -/
def fnExactMusicSlipSpec : ChangeSpec := { name := "fnExactMusicSlip", fn := fun _ => fun
  | [d1, d2, d3] => { results := [.lit (.bool true)], args := [d1, d2, d3] }
  | _ => none }
def fnExactMusicSlipRow : OpenClaim := { program := "ytjiidlnhhdkejaa", sum := "9ff2957689eaa89b869f883bdf1c07175ac749297be8b2dd69d15a590bee581c", func := "loop.example/g00912/laws.FnExactMusicSlip", spec := "fnExactMusicSlip", apart := false }
def FnExactMusicSlipSaid : Prop := fnExactMusicSlipRow.holds Try.pinned (OpenSpec.ofChange fnExactMusicSlipSpec)

/-- ITS FALSE NEIGHBOUR: 'it returns false'. Refute it at one input. -/
def fnExactMusicSlipWrong : ChangeSpec := { name := "fnExactMusicSlip", fn := fun _ => fun
  | [d1, d2, d3] => { results := [.lit (.bool false)], args := [d1, d2, d3] }
  | _ => none }
def FnExactMusicSlipWrongFalsely : Prop := fnExactMusicSlipRow.holds Try.pinned (OpenSpec.ofChange fnExactMusicSlipWrong)

/-- 'laws.FnExactWarmUpGroups': WHATEVER THE INPUT: true; the input reads as it did. -/
def fnExactWarmUpGroupsSpec : ChangeSpec := { name := "fnExactWarmUpGroups", fn := fun _ => fun
  | [d1, d2] => { results := [.lit (.bool true)], args := [d1, d2] }
  | _ => none }
def fnExactWarmUpGroupsRow : OpenClaim := { program := "ytjiidlnhhdkejaa", sum := "9ff2957689eaa89b869f883bdf1c07175ac749297be8b2dd69d15a590bee581c", func := "loop.example/g00912/laws.FnExactWarmUpGroups", spec := "fnExactWarmUpGroups", apart := false }
def FnExactWarmUpGroupsSaid : Prop := fnExactWarmUpGroupsRow.holds Try.pinned (OpenSpec.ofChange fnExactWarmUpGroupsSpec)

/-- ITS FALSE NEIGHBOUR: 'it returns false'. Refute it at one input. -/
def fnExactWarmUpGroupsWrong : ChangeSpec := { name := "fnExactWarmUpGroups", fn := fun _ => fun
  | [d1, d2] => { results := [.lit (.bool false)], args := [d1, d2] }
  | _ => none }
def FnExactWarmUpGroupsWrongFalsely : Prop := fnExactWarmUpGroupsRow.holds Try.pinned (OpenSpec.ofChange fnExactWarmUpGroupsWrong)

/-- 'laws.FnExactAreSlots': WHATEVER THE INPUT: true; the input reads as it did. -/
def fnExactAreSlotsSpec : ChangeSpec := { name := "fnExactAreSlots", fn := fun _ => fun
  | [d] => { results := [.lit (.bool true)], args := [d] }
  | _ => none }
def fnExactAreSlotsRow : OpenClaim := { program := "ytjiidlnhhdkejaa", sum := "9ff2957689eaa89b869f883bdf1c07175ac749297be8b2dd69d15a590bee581c", func := "loop.example/g00912/laws.FnExactAreSlots", spec := "fnExactAreSlots", unfollowed := true, recurses := true, apart := false }
def FnExactAreSlotsSaid : Prop := fnExactAreSlotsRow.holds Try.pinned (OpenSpec.ofChange fnExactAreSlotsSpec)

/-- ITS FALSE NEIGHBOUR: 'it returns false'. Refute it at one input. -/
def fnExactAreSlotsWrong : ChangeSpec := { name := "fnExactAreSlots", fn := fun _ => fun
  | [d] => { results := [.lit (.bool false)], args := [d] }
  | _ => none }
def FnExactAreSlotsWrongFalsely : Prop := fnExactAreSlotsRow.holds Try.pinned (OpenSpec.ofChange fnExactAreSlotsWrong)

/-- 'laws.FnExactEndTime': WHATEVER THE INPUT: true; the input reads as it did. -/
def fnExactEndTimeSpec : ChangeSpec := { name := "fnExactEndTime", fn := fun _ => fun
  | [d1, d2] => { results := [.lit (.bool true)], args := [d1, d2] }
  | _ => none }
def fnExactEndTimeRow : OpenClaim := { program := "ytjiidlnhhdkejaa", sum := "9ff2957689eaa89b869f883bdf1c07175ac749297be8b2dd69d15a590bee581c", func := "loop.example/g00912/laws.FnExactEndTime", spec := "fnExactEndTime", unfollowed := true, recurses := true, apart := false }
def FnExactEndTimeSaid : Prop := fnExactEndTimeRow.holds Try.pinned (OpenSpec.ofChange fnExactEndTimeSpec)

/-- ITS FALSE NEIGHBOUR: 'it returns false'. Refute it at one input. -/
def fnExactEndTimeWrong : ChangeSpec := { name := "fnExactEndTime", fn := fun _ => fun
  | [d1, d2] => { results := [.lit (.bool false)], args := [d1, d2] }
  | _ => none }
def FnExactEndTimeWrongFalsely : Prop := fnExactEndTimeRow.holds Try.pinned (OpenSpec.ofChange fnExactEndTimeWrong)

/-- 'laws.FnExactOnIce': WHATEVER THE INPUT: true; the input reads as it did. -/
def fnExactOnIceSpec : ChangeSpec := { name := "fnExactOnIce", fn := fun _ => fun
  | [d1, d2, d3] => { results := [.lit (.bool true)], args := [d1, d2, d3] }
  | _ => none }
def fnExactOnIceRow : OpenClaim := { program := "ytjiidlnhhdkejaa", sum := "9ff2957689eaa89b869f883bdf1c07175ac749297be8b2dd69d15a590bee581c", func := "loop.example/g00912/laws.FnExactOnIce", spec := "fnExactOnIce", unfollowed := true, recurses := true, apart := false }
def FnExactOnIceSaid : Prop := fnExactOnIceRow.holds Try.pinned (OpenSpec.ofChange fnExactOnIceSpec)

/-- ITS FALSE NEIGHBOUR: 'it returns false'. Refute it at one input. -/
def fnExactOnIceWrong : ChangeSpec := { name := "fnExactOnIce", fn := fun _ => fun
  | [d1, d2, d3] => { results := [.lit (.bool false)], args := [d1, d2, d3] }
  | _ => none }
def FnExactOnIceWrongFalsely : Prop := fnExactOnIceRow.holds Try.pinned (OpenSpec.ofChange fnExactOnIceWrong)

/-- 'laws.FnExactGreatestGap': WHATEVER THE INPUT: true; the input reads as it did. -/
def fnExactGreatestGapSpec : ChangeSpec := { name := "fnExactGreatestGap", fn := fun _ => fun
  | [d1, d2, d3] => { results := [.lit (.bool true)], args := [d1, d2, d3] }
  | _ => none }
def fnExactGreatestGapRow : OpenClaim := { program := "ytjiidlnhhdkejaa", sum := "9ff2957689eaa89b869f883bdf1c07175ac749297be8b2dd69d15a590bee581c", func := "loop.example/g00912/laws.FnExactGreatestGap", spec := "fnExactGreatestGap", unfollowed := true, recurses := true, apart := false }
def FnExactGreatestGapSaid : Prop := fnExactGreatestGapRow.holds Try.pinned (OpenSpec.ofChange fnExactGreatestGapSpec)

/-- ITS FALSE NEIGHBOUR: 'it returns false'. Refute it at one input. -/
def fnExactGreatestGapWrong : ChangeSpec := { name := "fnExactGreatestGap", fn := fun _ => fun
  | [d1, d2, d3] => { results := [.lit (.bool false)], args := [d1, d2, d3] }
  | _ => none }
def FnExactGreatestGapWrongFalsely : Prop := fnExactGreatestGapRow.holds Try.pinned (OpenSpec.ofChange fnExactGreatestGapWrong)

/-- 'laws.FnExactDelayedTimes': WHATEVER THE INPUT: true; the input reads as it did. -/
def fnExactDelayedTimesSpec : ChangeSpec := { name := "fnExactDelayedTimes", fn := fun _ => fun
  | [d1, d2, d3, d4] => { results := [.lit (.bool true)], args := [d1, d2, d3, d4] }
  | _ => none }
def fnExactDelayedTimesRow : OpenClaim := { program := "ytjiidlnhhdkejaa", sum := "9ff2957689eaa89b869f883bdf1c07175ac749297be8b2dd69d15a590bee581c", func := "loop.example/g00912/laws.FnExactDelayedTimes", spec := "fnExactDelayedTimes", unfollowed := true, recurses := true, apart := false }
def FnExactDelayedTimesSaid : Prop := fnExactDelayedTimesRow.holds Try.pinned (OpenSpec.ofChange fnExactDelayedTimesSpec)

/-- ITS FALSE NEIGHBOUR: 'it returns false'. Refute it at one input. -/
def fnExactDelayedTimesWrong : ChangeSpec := { name := "fnExactDelayedTimes", fn := fun _ => fun
  | [d1, d2, d3, d4] => { results := [.lit (.bool false)], args := [d1, d2, d3, d4] }
  | _ => none }
def FnExactDelayedTimesWrongFalsely : Prop := fnExactDelayedTimesRow.holds Try.pinned (OpenSpec.ofChange fnExactDelayedTimesWrong)

/-- 'laws.FnExactStartTimes': WHATEVER THE INPUT: true; the input reads as it did. -/
def fnExactStartTimesSpec : ChangeSpec := { name := "fnExactStartTimes", fn := fun _ => fun
  | [d1, d2] => { results := [.lit (.bool true)], args := [d1, d2] }
  | _ => none }
def fnExactStartTimesRow : OpenClaim := { program := "ytjiidlnhhdkejaa", sum := "9ff2957689eaa89b869f883bdf1c07175ac749297be8b2dd69d15a590bee581c", func := "loop.example/g00912/laws.FnExactStartTimes", spec := "fnExactStartTimes", unfollowed := true, recurses := true, apart := false }
def FnExactStartTimesSaid : Prop := fnExactStartTimesRow.holds Try.pinned (OpenSpec.ofChange fnExactStartTimesSpec)

/-- ITS FALSE NEIGHBOUR: 'it returns false'. Refute it at one input. -/
def fnExactStartTimesWrong : ChangeSpec := { name := "fnExactStartTimes", fn := fun _ => fun
  | [d1, d2] => { results := [.lit (.bool false)], args := [d1, d2] }
  | _ => none }
def FnExactStartTimesWrongFalsely : Prop := fnExactStartTimesRow.holds Try.pinned (OpenSpec.ofChange fnExactStartTimesWrong)

/-- 'laws.FnExactWarmUpTimes': WHATEVER THE INPUT: true; the input reads as it did. -/
def fnExactWarmUpTimesSpec : ChangeSpec := { name := "fnExactWarmUpTimes", fn := fun _ => fun
  | [d1, d2] => { results := [.lit (.bool true)], args := [d1, d2] }
  | _ => none }
def fnExactWarmUpTimesRow : OpenClaim := { program := "ytjiidlnhhdkejaa", sum := "9ff2957689eaa89b869f883bdf1c07175ac749297be8b2dd69d15a590bee581c", func := "loop.example/g00912/laws.FnExactWarmUpTimes", spec := "fnExactWarmUpTimes", unfollowed := true, recurses := true, apart := false }
def FnExactWarmUpTimesSaid : Prop := fnExactWarmUpTimesRow.holds Try.pinned (OpenSpec.ofChange fnExactWarmUpTimesSpec)

/-- ITS FALSE NEIGHBOUR: 'it returns false'. Refute it at one input. -/
def fnExactWarmUpTimesWrong : ChangeSpec := { name := "fnExactWarmUpTimes", fn := fun _ => fun
  | [d1, d2] => { results := [.lit (.bool false)], args := [d1, d2] }
  | _ => none }
def FnExactWarmUpTimesWrongFalsely : Prop := fnExactWarmUpTimesRow.holds Try.pinned (OpenSpec.ofChange fnExactWarmUpTimesWrong)

/-- 'laws.FnTimes': WHATEVER THE INPUT: true; the input reads as it did. -/
def fnTimesSpec : ChangeSpec := { name := "fnTimes", fn := fun _ => fun
  | [d1, d2] => { results := [.lit (.bool true)], args := [d1, d2] }
  | _ => none }
def fnTimesRow : OpenClaim := { program := "ytjiidlnhhdkejaa", sum := "9ff2957689eaa89b869f883bdf1c07175ac749297be8b2dd69d15a590bee581c", func := "loop.example/g00912/laws.FnTimes", spec := "fnTimes", unfollowed := true, recurses := true, apart := false }
def FnTimesSaid : Prop := fnTimesRow.holds Try.pinned (OpenSpec.ofChange fnTimesSpec)

/-- ITS FALSE NEIGHBOUR: 'it returns false'. Refute it at one input. -/
def fnTimesWrong : ChangeSpec := { name := "fnTimes", fn := fun _ => fun
  | [d1, d2] => { results := [.lit (.bool false)], args := [d1, d2] }
  | _ => none }
def FnTimesWrongFalsely : Prop := fnTimesRow.holds Try.pinned (OpenSpec.ofChange fnTimesWrong)

/-- 'laws.FnDelays': WHATEVER THE INPUT: true; the input reads as it did. -/
def fnDelaysSpec : ChangeSpec := { name := "fnDelays", fn := fun _ => fun
  | [d1, d2] => { results := [.lit (.bool true)], args := [d1, d2] }
  | _ => none }
def fnDelaysRow : OpenClaim := { program := "ytjiidlnhhdkejaa", sum := "9ff2957689eaa89b869f883bdf1c07175ac749297be8b2dd69d15a590bee581c", func := "loop.example/g00912/laws.FnDelays", spec := "fnDelays", unfollowed := true, recurses := true, apart := false }
def FnDelaysSaid : Prop := fnDelaysRow.holds Try.pinned (OpenSpec.ofChange fnDelaysSpec)

/-- ITS FALSE NEIGHBOUR: 'it returns false'. Refute it at one input. -/
def fnDelaysWrong : ChangeSpec := { name := "fnDelays", fn := fun _ => fun
  | [d1, d2] => { results := [.lit (.bool false)], args := [d1, d2] }
  | _ => none }
def FnDelaysWrongFalsely : Prop := fnDelaysRow.holds Try.pinned (OpenSpec.ofChange fnDelaysWrong)

/- THE SECOND FORM. 'bulk': how many values and letters a reading holds, each counted each time it is reached (what is shared counts as often as it is met; a slice's spare places count too). A statement '..UptoSaid' is the law's where the arguments, and the package variables that the reading takes, are together of bulk at most 1048576: NARROWER than '..Said'. Prove '..Said' where nothing that the law and all that it calls make is longer than what came in: it says more and counts as full. Else prove '..UptoSaid'. A law counts once. -/
mutual
def uptoBulk {H : Type} : DataW H → Nat
  | .lit (.string bytes) => bytes.length + 1
  | .lit _ => 1
  | .nil => 1
  | .ptr d => uptoBulk d + 1
  | .slice elems spare => uptoBulkAll elems + uptoBulkAll spare + 1
  | .agg parts => uptoBulkAll parts + 1
  | .iface _ d => uptoBulk d + 1
  | .map entries => uptoBulkEntries entries + 1
  | .held _ => 1
def uptoBulkAll {H : Type} : List (DataW H) → Nat
  | [] => 0
  | d :: r => uptoBulk d + uptoBulkAll r
def uptoBulkEntries {H : Type} : List (Lit × DataW H) → Nat
  | [] => 0
  | x :: r => uptoBulkEntry x + uptoBulkEntries r
def uptoBulkEntry {H : Type} : Lit × DataW H → Nat
  | (.string bytes, d) => bytes.length + uptoBulk d + 1
  | (_, d) => uptoBulk d + 1
 end
def uptoSmall : (H : Type) → List (DataW H) → Bool := fun _ ds => decide (uptoBulkAll ds ≤ 1048576)
def OpenSpec.upto (s : _root_.Go.ChangeSpec) : _root_.Go.OpenSpec := { _root_.Go.OpenSpec.ofChange s with cond := some uptoSmall }

/-- 'laws.FnExactIsDay', WHERE WHAT IT READS IS OF BULK AT MOST 1048576: true; the input reads as it did. -/
def fnExactIsDayUptoRow : OpenClaim := { program := "ytjiidlnhhdkejaa", sum := "9ff2957689eaa89b869f883bdf1c07175ac749297be8b2dd69d15a590bee581c", func := "loop.example/g00912/laws.FnExactIsDay", spec := "fnExactIsDay", apart := false, narrowed := true }
def FnExactIsDayUptoSaid : Prop := fnExactIsDayUptoRow.holds Try.pinned (OpenSpec.upto fnExactIsDaySpec)

/-- 'laws.FnExactMusicSlip', WHERE WHAT IT READS IS OF BULK AT MOST 1048576: true; the input reads as it did. -/
def fnExactMusicSlipUptoRow : OpenClaim := { program := "ytjiidlnhhdkejaa", sum := "9ff2957689eaa89b869f883bdf1c07175ac749297be8b2dd69d15a590bee581c", func := "loop.example/g00912/laws.FnExactMusicSlip", spec := "fnExactMusicSlip", apart := false, narrowed := true }
def FnExactMusicSlipUptoSaid : Prop := fnExactMusicSlipUptoRow.holds Try.pinned (OpenSpec.upto fnExactMusicSlipSpec)

/-- 'laws.FnExactWarmUpGroups', WHERE WHAT IT READS IS OF BULK AT MOST 1048576: true; the input reads as it did. -/
def fnExactWarmUpGroupsUptoRow : OpenClaim := { program := "ytjiidlnhhdkejaa", sum := "9ff2957689eaa89b869f883bdf1c07175ac749297be8b2dd69d15a590bee581c", func := "loop.example/g00912/laws.FnExactWarmUpGroups", spec := "fnExactWarmUpGroups", apart := false, narrowed := true }
def FnExactWarmUpGroupsUptoSaid : Prop := fnExactWarmUpGroupsUptoRow.holds Try.pinned (OpenSpec.upto fnExactWarmUpGroupsSpec)

/-- 'laws.FnExactAreSlots', WHERE WHAT IT READS IS OF BULK AT MOST 1048576: true; the input reads as it did. -/
def fnExactAreSlotsUptoRow : OpenClaim := { program := "ytjiidlnhhdkejaa", sum := "9ff2957689eaa89b869f883bdf1c07175ac749297be8b2dd69d15a590bee581c", func := "loop.example/g00912/laws.FnExactAreSlots", spec := "fnExactAreSlots", unfollowed := true, recurses := true, apart := false, narrowed := true }
def FnExactAreSlotsUptoSaid : Prop := fnExactAreSlotsUptoRow.holds Try.pinned (OpenSpec.upto fnExactAreSlotsSpec)

/-- 'laws.FnExactEndTime', WHERE WHAT IT READS IS OF BULK AT MOST 1048576: true; the input reads as it did. -/
def fnExactEndTimeUptoRow : OpenClaim := { program := "ytjiidlnhhdkejaa", sum := "9ff2957689eaa89b869f883bdf1c07175ac749297be8b2dd69d15a590bee581c", func := "loop.example/g00912/laws.FnExactEndTime", spec := "fnExactEndTime", unfollowed := true, recurses := true, apart := false, narrowed := true }
def FnExactEndTimeUptoSaid : Prop := fnExactEndTimeUptoRow.holds Try.pinned (OpenSpec.upto fnExactEndTimeSpec)

/-- 'laws.FnExactOnIce', WHERE WHAT IT READS IS OF BULK AT MOST 1048576: true; the input reads as it did. -/
def fnExactOnIceUptoRow : OpenClaim := { program := "ytjiidlnhhdkejaa", sum := "9ff2957689eaa89b869f883bdf1c07175ac749297be8b2dd69d15a590bee581c", func := "loop.example/g00912/laws.FnExactOnIce", spec := "fnExactOnIce", unfollowed := true, recurses := true, apart := false, narrowed := true }
def FnExactOnIceUptoSaid : Prop := fnExactOnIceUptoRow.holds Try.pinned (OpenSpec.upto fnExactOnIceSpec)

/-- 'laws.FnExactGreatestGap', WHERE WHAT IT READS IS OF BULK AT MOST 1048576: true; the input reads as it did. -/
def fnExactGreatestGapUptoRow : OpenClaim := { program := "ytjiidlnhhdkejaa", sum := "9ff2957689eaa89b869f883bdf1c07175ac749297be8b2dd69d15a590bee581c", func := "loop.example/g00912/laws.FnExactGreatestGap", spec := "fnExactGreatestGap", unfollowed := true, recurses := true, apart := false, narrowed := true }
def FnExactGreatestGapUptoSaid : Prop := fnExactGreatestGapUptoRow.holds Try.pinned (OpenSpec.upto fnExactGreatestGapSpec)

/-- 'laws.FnExactDelayedTimes', WHERE WHAT IT READS IS OF BULK AT MOST 1048576: true; the input reads as it did. -/
def fnExactDelayedTimesUptoRow : OpenClaim := { program := "ytjiidlnhhdkejaa", sum := "9ff2957689eaa89b869f883bdf1c07175ac749297be8b2dd69d15a590bee581c", func := "loop.example/g00912/laws.FnExactDelayedTimes", spec := "fnExactDelayedTimes", unfollowed := true, recurses := true, apart := false, narrowed := true }
def FnExactDelayedTimesUptoSaid : Prop := fnExactDelayedTimesUptoRow.holds Try.pinned (OpenSpec.upto fnExactDelayedTimesSpec)

/-- 'laws.FnExactStartTimes', WHERE WHAT IT READS IS OF BULK AT MOST 1048576: true; the input reads as it did. -/
def fnExactStartTimesUptoRow : OpenClaim := { program := "ytjiidlnhhdkejaa", sum := "9ff2957689eaa89b869f883bdf1c07175ac749297be8b2dd69d15a590bee581c", func := "loop.example/g00912/laws.FnExactStartTimes", spec := "fnExactStartTimes", unfollowed := true, recurses := true, apart := false, narrowed := true }
def FnExactStartTimesUptoSaid : Prop := fnExactStartTimesUptoRow.holds Try.pinned (OpenSpec.upto fnExactStartTimesSpec)

/-- 'laws.FnExactWarmUpTimes', WHERE WHAT IT READS IS OF BULK AT MOST 1048576: true; the input reads as it did. -/
def fnExactWarmUpTimesUptoRow : OpenClaim := { program := "ytjiidlnhhdkejaa", sum := "9ff2957689eaa89b869f883bdf1c07175ac749297be8b2dd69d15a590bee581c", func := "loop.example/g00912/laws.FnExactWarmUpTimes", spec := "fnExactWarmUpTimes", unfollowed := true, recurses := true, apart := false, narrowed := true }
def FnExactWarmUpTimesUptoSaid : Prop := fnExactWarmUpTimesUptoRow.holds Try.pinned (OpenSpec.upto fnExactWarmUpTimesSpec)

/-- 'laws.FnTimes', WHERE WHAT IT READS IS OF BULK AT MOST 1048576: true; the input reads as it did. -/
def fnTimesUptoRow : OpenClaim := { program := "ytjiidlnhhdkejaa", sum := "9ff2957689eaa89b869f883bdf1c07175ac749297be8b2dd69d15a590bee581c", func := "loop.example/g00912/laws.FnTimes", spec := "fnTimes", unfollowed := true, recurses := true, apart := false, narrowed := true }
def FnTimesUptoSaid : Prop := fnTimesUptoRow.holds Try.pinned (OpenSpec.upto fnTimesSpec)

/-- 'laws.FnDelays', WHERE WHAT IT READS IS OF BULK AT MOST 1048576: true; the input reads as it did. -/
def fnDelaysUptoRow : OpenClaim := { program := "ytjiidlnhhdkejaa", sum := "9ff2957689eaa89b869f883bdf1c07175ac749297be8b2dd69d15a590bee581c", func := "loop.example/g00912/laws.FnDelays", spec := "fnDelays", unfollowed := true, recurses := true, apart := false, narrowed := true }
def FnDelaysUptoSaid : Prop := fnDelaysUptoRow.holds Try.pinned (OpenSpec.upto fnDelaysSpec)

end Rows
end Go.Proofs.Ytjiidlnhhdkejaa
