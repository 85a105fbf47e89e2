/-
  DERIVED. GIVEN WITH THE SEED: THE CARDS: each row of YtfmidngndddfiaaGreatDoorRows.lean that lists a variable, with what it lists TIED to the program's text (the seventh form; the later family's looks); each row that meets fmt, with fmt's text TOLD by the authors' own Lean function (tested against real Go, not proved from fmt's source: count such statements apart). THE CARD IS WHAT COUNTS. Prove the row's statement (the work); the ties are given (YtfmidngndddfiaaGreatDoorTie.lean); close each card by the builder's one call (the guide's Derived/Test/ToyasCard.lean, 'card_holds'). Laid BY PROGRAM, IN A SANDBOX (cutbox-door.mjs). By AI agents, Wed Nov 11 2026. No macro, syntax, notation, axiom, sorry.
-/
import Derived.Test.YtfmidngndddfiaaGreatDoorRows
import GoSem.ClaimSeven
namespace Go.Proofs.YtfmidngndddfiaaGreatDoor
namespace Rows

/-- THE TIED CARD OF 'laws.FnExactItemLine'. -/
def fnExactItemLineCard : Claim7 := { stood := { row := fnExactItemLineRow, standIns := [], harness := (true, "847056cc2b1075da5cf1c1986ddabd7d81e04e1ee04dff2451e4e68b40e4cb6b"), looks := false }, kinds := [], alts := [], laidByText := true, laidKinds := [.data, .data, .data, .data], laidTests := true, laidLooks := .later }
def FnExactItemLineCardSaid : Prop := Claim7.holds Tryz.pinned (.plain (OpenSpec.ofChange fnExactItemLineSpec)) fnExactItemLineCard

/-- THE TIED CARD OF 'laws.FnExactTotalsLine'. -/
def fnExactTotalsLineCard : Claim7 := { stood := { row := fnExactTotalsLineRow, standIns := [], harness := (true, "847056cc2b1075da5cf1c1986ddabd7d81e04e1ee04dff2451e4e68b40e4cb6b"), looks := false }, kinds := [], alts := [], laidByText := true, laidKinds := [.data, .data, .data], laidTests := true, laidLooks := .later }
def FnExactTotalsLineCardSaid : Prop := Claim7.holds Tryz.pinned (.plain (OpenSpec.ofChange fnExactTotalsLineSpec)) fnExactTotalsLineCard

/-- THE TIED CARD OF 'laws.FnExactProtocolText'. -/
def fnExactProtocolTextCard : Claim7 := { stood := { row := fnExactProtocolTextRow, standIns := [], harness := (true, "847056cc2b1075da5cf1c1986ddabd7d81e04e1ee04dff2451e4e68b40e4cb6b"), looks := false }, kinds := [], alts := [], laidByText := true, laidKinds := [.data, .data, .data, .data], laidTests := true, laidLooks := .later }
def FnExactProtocolTextCardSaid : Prop := Claim7.holds Tryz.pinned (.plain (OpenSpec.ofChange fnExactProtocolTextSpec)) fnExactProtocolTextCard

/-- THE SECOND FORM's CARD OF 'laws.FnExactItemLine'. -/
def fnExactItemLineUptoCard : Claim7 := { stood := { row := fnExactItemLineUptoRow, standIns := [], harness := (true, "847056cc2b1075da5cf1c1986ddabd7d81e04e1ee04dff2451e4e68b40e4cb6b"), looks := false }, kinds := [], alts := [], laidByText := true, laidKinds := [.data, .data, .data, .data], laidTests := true, laidLooks := .later }
def FnExactItemLineUptoCardSaid : Prop := Claim7.holds Tryz.pinned (.plain (OpenSpec.upto fnExactItemLineSpec)) fnExactItemLineUptoCard

/-- THE SECOND FORM's CARD OF 'laws.FnExactTotalsLine'. -/
def fnExactTotalsLineUptoCard : Claim7 := { stood := { row := fnExactTotalsLineUptoRow, standIns := [], harness := (true, "847056cc2b1075da5cf1c1986ddabd7d81e04e1ee04dff2451e4e68b40e4cb6b"), looks := false }, kinds := [], alts := [], laidByText := true, laidKinds := [.data, .data, .data], laidTests := true, laidLooks := .later }
def FnExactTotalsLineUptoCardSaid : Prop := Claim7.holds Tryz.pinned (.plain (OpenSpec.upto fnExactTotalsLineSpec)) fnExactTotalsLineUptoCard

/-- THE SECOND FORM's CARD OF 'laws.FnExactProtocolText'. -/
def fnExactProtocolTextUptoCard : Claim7 := { stood := { row := fnExactProtocolTextUptoRow, standIns := [], harness := (true, "847056cc2b1075da5cf1c1986ddabd7d81e04e1ee04dff2451e4e68b40e4cb6b"), looks := false }, kinds := [], alts := [], laidByText := true, laidKinds := [.data, .data, .data, .data], laidTests := true, laidLooks := .later }
def FnExactProtocolTextUptoCardSaid : Prop := Claim7.holds Tryz.pinned (.plain (OpenSpec.upto fnExactProtocolTextSpec)) fnExactProtocolTextUptoCard
end Rows
end Go.Proofs.YtfmidngndddfiaaGreatDoor
