/-
  DERIVED. GIVEN WITH THE SEED: THE CARDS: each row of YtmeaklaagglmeaaGreatDoorRows.lean that lists a variable, with what it lists TIED to the program's text (the seventh form; the later family's looks); each row that meets fmt, with fmt's text TOLD by the authors' own Lean function (tested against real Go, not proved from fmt's source: count such statements apart). THE CARD IS WHAT COUNTS. Prove the row's statement (the work); the ties are given (YtmeaklaagglmeaaGreatDoorTie.lean); close each card by the builder's one call (the guide's Derived/Test/ToyasCard.lean, 'card_holds'). Laid BY PROGRAM, IN A SANDBOX (cutbox-door.mjs). By AI agents, Wed Nov 11 2026. No macro, syntax, notation, axiom, sorry.
-/
import Derived.Test.YtmeaklaagglmeaaGreatDoorRows
import GoSem.ClaimSeven
namespace Go.Proofs.YtmeaklaagglmeaaGreatDoor
namespace Rows

/-- THE TIED CARD OF 'laws.FnExactReadProtocol'. -/
def fnExactReadProtocolCard : Claim7 := { stood := { row := fnExactReadProtocolRow, standIns := [], harness := (true, "02f39fdde49e910440ffc5900f4b5f3358a9e9c9ee70156b83c1aa3f51f00535"), looks := false }, kinds := [], alts := [], laidByText := true, laidKinds := [.data, .data, .data, .data, .data, .pinned], laidTests := true, laidLooks := .later }
def FnExactReadProtocolCardSaid : Prop := Claim7.holds Tryz.pinned (.plain (OpenSpec.ofChange fnExactReadProtocolSpec)) fnExactReadProtocolCard

/-- THE TIED CARD OF 'laws.FnProtocols'. -/
def fnProtocolsCard : Claim7 := { stood := { row := fnProtocolsRow, standIns := [], harness := (true, "02f39fdde49e910440ffc5900f4b5f3358a9e9c9ee70156b83c1aa3f51f00535"), looks := false }, kinds := [], alts := [], laidByText := true, laidKinds := [.data, .data, .data, .data, .data, .pinned], laidTests := true, laidLooks := .later }
def FnProtocolsCardSaid : Prop := Claim7.holds Tryz.pinned (.plain (OpenSpec.ofChange fnProtocolsSpec)) fnProtocolsCard

/-- THE TIED CARD OF 'laws.FnRecalled'. -/
def fnRecalledCard : Claim7 := { stood := { row := fnRecalledRow, standIns := [], harness := (true, "02f39fdde49e910440ffc5900f4b5f3358a9e9c9ee70156b83c1aa3f51f00535"), looks := false }, kinds := [], alts := [], laidByText := true, laidKinds := [.data, .data, .data, .data, .data, .pinned], laidTests := true, laidLooks := .later }
def FnRecalledCardSaid : Prop := Claim7.holds Tryz.pinned (.plain (OpenSpec.ofChange fnRecalledSpec)) fnRecalledCard

/-- THE TIED CARD OF 'laws.FnExactProtocolHolds'. -/
def fnExactProtocolHoldsCard : Claim7 := { stood := { row := fnExactProtocolHoldsRow, standIns := [], harness := (true, "02f39fdde49e910440ffc5900f4b5f3358a9e9c9ee70156b83c1aa3f51f00535"), looks := false }, kinds := [], alts := [], laidByText := true, laidKinds := [.data, .data, .data, .data, .data, .pinned], laidTests := true, laidLooks := .later }
def FnExactProtocolHoldsCardSaid : Prop := Claim7.holds Tryz.pinned (.plain (OpenSpec.ofChange fnExactProtocolHoldsSpec)) fnExactProtocolHoldsCard

/-- THE TIED CARD OF 'laws.FnExactRenumbered'. -/
def fnExactRenumberedCard : Claim7 := { stood := { row := fnExactRenumberedRow, standIns := [], harness := (true, "02f39fdde49e910440ffc5900f4b5f3358a9e9c9ee70156b83c1aa3f51f00535"), looks := false }, kinds := [], alts := [], laidByText := true, laidKinds := [.data, .data, .data, .data, .data, .pinned], laidTests := true, laidLooks := .later }
def FnExactRenumberedCardSaid : Prop := Claim7.holds Tryz.pinned (.plain (OpenSpec.ofChange fnExactRenumberedSpec)) fnExactRenumberedCard

/-- THE TIED CARD OF 'laws.FnExactProtocolScore'. -/
def fnExactProtocolScoreCard : Claim7 := { stood := { row := fnExactProtocolScoreRow, standIns := [], harness := (true, "02f39fdde49e910440ffc5900f4b5f3358a9e9c9ee70156b83c1aa3f51f00535"), looks := false }, kinds := [], alts := [], laidByText := true, laidKinds := [.data, .data, .data, .data, .data, .pinned], laidTests := true, laidLooks := .later }
def FnExactProtocolScoreCardSaid : Prop := Claim7.holds Tryz.pinned (.plain (OpenSpec.ofChange fnExactProtocolScoreSpec)) fnExactProtocolScoreCard

/-- THE TIED CARD OF 'laws.FnExactRecallProtocol'. -/
def fnExactRecallProtocolCard : Claim7 := { stood := { row := fnExactRecallProtocolRow, standIns := [], harness := (true, "02f39fdde49e910440ffc5900f4b5f3358a9e9c9ee70156b83c1aa3f51f00535"), looks := false }, kinds := [], alts := [], laidByText := true, laidKinds := [.data, .data, .data, .data, .data, .pinned], laidTests := true, laidLooks := .later }
def FnExactRecallProtocolCardSaid : Prop := Claim7.holds Tryz.pinned (.plain (OpenSpec.ofChange fnExactRecallProtocolSpec)) fnExactRecallProtocolCard

/-- THE SECOND FORM's CARD OF 'laws.FnExactReadProtocol'. -/
def fnExactReadProtocolUptoCard : Claim7 := { stood := { row := fnExactReadProtocolUptoRow, standIns := [], harness := (true, "02f39fdde49e910440ffc5900f4b5f3358a9e9c9ee70156b83c1aa3f51f00535"), looks := false }, kinds := [], alts := [], laidByText := true, laidKinds := [.data, .data, .data, .data, .data, .pinned], laidTests := true, laidLooks := .later }
def FnExactReadProtocolUptoCardSaid : Prop := Claim7.holds Tryz.pinned (.plain (OpenSpec.upto fnExactReadProtocolSpec)) fnExactReadProtocolUptoCard

/-- THE SECOND FORM's CARD OF 'laws.FnProtocols'. -/
def fnProtocolsUptoCard : Claim7 := { stood := { row := fnProtocolsUptoRow, standIns := [], harness := (true, "02f39fdde49e910440ffc5900f4b5f3358a9e9c9ee70156b83c1aa3f51f00535"), looks := false }, kinds := [], alts := [], laidByText := true, laidKinds := [.data, .data, .data, .data, .data, .pinned], laidTests := true, laidLooks := .later }
def FnProtocolsUptoCardSaid : Prop := Claim7.holds Tryz.pinned (.plain (OpenSpec.upto fnProtocolsSpec)) fnProtocolsUptoCard

/-- THE SECOND FORM's CARD OF 'laws.FnRecalled'. -/
def fnRecalledUptoCard : Claim7 := { stood := { row := fnRecalledUptoRow, standIns := [], harness := (true, "02f39fdde49e910440ffc5900f4b5f3358a9e9c9ee70156b83c1aa3f51f00535"), looks := false }, kinds := [], alts := [], laidByText := true, laidKinds := [.data, .data, .data, .data, .data, .pinned], laidTests := true, laidLooks := .later }
def FnRecalledUptoCardSaid : Prop := Claim7.holds Tryz.pinned (.plain (OpenSpec.upto fnRecalledSpec)) fnRecalledUptoCard

/-- THE SECOND FORM's CARD OF 'laws.FnExactProtocolHolds'. -/
def fnExactProtocolHoldsUptoCard : Claim7 := { stood := { row := fnExactProtocolHoldsUptoRow, standIns := [], harness := (true, "02f39fdde49e910440ffc5900f4b5f3358a9e9c9ee70156b83c1aa3f51f00535"), looks := false }, kinds := [], alts := [], laidByText := true, laidKinds := [.data, .data, .data, .data, .data, .pinned], laidTests := true, laidLooks := .later }
def FnExactProtocolHoldsUptoCardSaid : Prop := Claim7.holds Tryz.pinned (.plain (OpenSpec.upto fnExactProtocolHoldsSpec)) fnExactProtocolHoldsUptoCard

/-- THE SECOND FORM's CARD OF 'laws.FnExactRenumbered'. -/
def fnExactRenumberedUptoCard : Claim7 := { stood := { row := fnExactRenumberedUptoRow, standIns := [], harness := (true, "02f39fdde49e910440ffc5900f4b5f3358a9e9c9ee70156b83c1aa3f51f00535"), looks := false }, kinds := [], alts := [], laidByText := true, laidKinds := [.data, .data, .data, .data, .data, .pinned], laidTests := true, laidLooks := .later }
def FnExactRenumberedUptoCardSaid : Prop := Claim7.holds Tryz.pinned (.plain (OpenSpec.upto fnExactRenumberedSpec)) fnExactRenumberedUptoCard

/-- THE SECOND FORM's CARD OF 'laws.FnExactProtocolScore'. -/
def fnExactProtocolScoreUptoCard : Claim7 := { stood := { row := fnExactProtocolScoreUptoRow, standIns := [], harness := (true, "02f39fdde49e910440ffc5900f4b5f3358a9e9c9ee70156b83c1aa3f51f00535"), looks := false }, kinds := [], alts := [], laidByText := true, laidKinds := [.data, .data, .data, .data, .data, .pinned], laidTests := true, laidLooks := .later }
def FnExactProtocolScoreUptoCardSaid : Prop := Claim7.holds Tryz.pinned (.plain (OpenSpec.upto fnExactProtocolScoreSpec)) fnExactProtocolScoreUptoCard

/-- THE SECOND FORM's CARD OF 'laws.FnExactRecallProtocol'. -/
def fnExactRecallProtocolUptoCard : Claim7 := { stood := { row := fnExactRecallProtocolUptoRow, standIns := [], harness := (true, "02f39fdde49e910440ffc5900f4b5f3358a9e9c9ee70156b83c1aa3f51f00535"), looks := false }, kinds := [], alts := [], laidByText := true, laidKinds := [.data, .data, .data, .data, .data, .pinned], laidTests := true, laidLooks := .later }
def FnExactRecallProtocolUptoCardSaid : Prop := Claim7.holds Tryz.pinned (.plain (OpenSpec.upto fnExactRecallProtocolSpec)) fnExactRecallProtocolUptoCard
end Rows
end Go.Proofs.YtmeaklaagglmeaaGreatDoor
