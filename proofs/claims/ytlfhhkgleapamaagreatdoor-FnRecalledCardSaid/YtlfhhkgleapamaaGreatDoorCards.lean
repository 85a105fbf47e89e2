/-
  DERIVED. GIVEN WITH THE SEED: THE CARDS: each row of YtlfhhkgleapamaaGreatDoorRows.lean that lists a variable, with what it lists TIED to the program's text (the seventh form; the later family's looks); each row that meets fmt, with fmt's text TOLD by the authors' own Lean function (tested against real Go, not proved from fmt's source: count such statements apart). THE CARD IS WHAT COUNTS. Prove the row's statement (the work); the ties are given (YtlfhhkgleapamaaGreatDoorTie.lean); close each card by the builder's one call (the guide's Derived/Test/ToyasCard.lean, 'card_holds'). Laid BY PROGRAM, IN A SANDBOX (cutbox-door.mjs). By AI agents, Wed Nov 11 2026. No macro, syntax, notation, axiom, sorry.
-/
import Derived.Test.YtlfhhkgleapamaaGreatDoorRows
import GoSem.ClaimSeven
namespace Go.Proofs.YtlfhhkgleapamaaGreatDoor
namespace Rows

/-- THE TIED CARD OF 'laws.FnProtocols'. -/
def fnProtocolsCard : Claim7 := { stood := { row := fnProtocolsRow, standIns := [], harness := (true, "46070cfcee7dc67270debd80780a5bb33eada96973bd32423fb40ad8c9e36c94"), looks := false }, kinds := [], alts := [], laidByText := true, laidKinds := [.data, .data, .data, .data, .data, .pinned], laidTests := true, laidLooks := .later }
def FnProtocolsCardSaid : Prop := Claim7.holds Tryz.pinned (.plain (OpenSpec.ofChange fnProtocolsSpec)) fnProtocolsCard

/-- THE TIED CARD OF 'laws.FnRecalled'. -/
def fnRecalledCard : Claim7 := { stood := { row := fnRecalledRow, standIns := [], harness := (true, "46070cfcee7dc67270debd80780a5bb33eada96973bd32423fb40ad8c9e36c94"), looks := false }, kinds := [], alts := [], laidByText := true, laidKinds := [.data, .data, .data, .data, .data, .pinned], laidTests := true, laidLooks := .later }
def FnRecalledCardSaid : Prop := Claim7.holds Tryz.pinned (.plain (OpenSpec.ofChange fnRecalledSpec)) fnRecalledCard

/-- THE SECOND FORM's CARD OF 'laws.FnProtocols'. -/
def fnProtocolsUptoCard : Claim7 := { stood := { row := fnProtocolsUptoRow, standIns := [], harness := (true, "46070cfcee7dc67270debd80780a5bb33eada96973bd32423fb40ad8c9e36c94"), looks := false }, kinds := [], alts := [], laidByText := true, laidKinds := [.data, .data, .data, .data, .data, .pinned], laidTests := true, laidLooks := .later }
def FnProtocolsUptoCardSaid : Prop := Claim7.holds Tryz.pinned (.plain (OpenSpec.upto fnProtocolsSpec)) fnProtocolsUptoCard

/-- THE SECOND FORM's CARD OF 'laws.FnRecalled'. -/
def fnRecalledUptoCard : Claim7 := { stood := { row := fnRecalledUptoRow, standIns := [], harness := (true, "46070cfcee7dc67270debd80780a5bb33eada96973bd32423fb40ad8c9e36c94"), looks := false }, kinds := [], alts := [], laidByText := true, laidKinds := [.data, .data, .data, .data, .data, .pinned], laidTests := true, laidLooks := .later }
def FnRecalledUptoCardSaid : Prop := Claim7.holds Tryz.pinned (.plain (OpenSpec.upto fnRecalledSpec)) fnRecalledUptoCard
end Rows
end Go.Proofs.YtlfhhkgleapamaaGreatDoor
