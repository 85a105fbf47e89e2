/-
  DERIVED. GIVEN WITH THE SEED: THE CARDS: each row of YtogglhgagblihaaDoorRows.lean that lists a variable, with what it lists TIED to the program's text (the seventh form; the later family's looks); each row that meets fmt, with fmt's text TOLD by the authors' own Lean function (tested against real Go, not proved from fmt's source: count such statements apart). THE CARD IS WHAT COUNTS. Prove the row's statement (the work); the ties are given (YtogglhgagblihaaDoorTie.lean); close each card by the builder's one call (the guide's Derived/Test/ToyasCard.lean, 'card_holds'). Laid BY PROGRAM, IN A SANDBOX (cutbox-door.mjs). By AI agents, Wed Nov 11 2026. No macro, syntax, notation, axiom, sorry.
-/
import Derived.Test.YtogglhgagblihaaDoorRows
import GoSem.ClaimSeven
namespace Go.Proofs.YtogglhgagblihaaDoor
namespace Rows

/-- THE TIED CARD OF 'laws.FnExactCueText'. -/
def fnExactCueTextCard : Claim7 := { stood := { row := fnExactCueTextRow, standIns := [], harness := (true, "6932847bdeaf6de4f4143504c5c13b4e279f030f977c914695a09d23a823e4c0"), looks := false }, kinds := [], alts := [], laidByText := true, laidKinds := [.data, .data, .data], laidTests := true, laidLooks := .later }
def FnExactCueTextCardSaid : Prop := Claim7.holds Tryd.pinned (.plain (OpenSpec.ofChange fnExactCueTextSpec)) fnExactCueTextCard

/-- THE TIED CARD OF 'laws.FnExactSealOf'. -/
def fnExactSealOfCard : Claim7 := { stood := { row := fnExactSealOfRow, standIns := [], harness := (true, "6932847bdeaf6de4f4143504c5c13b4e279f030f977c914695a09d23a823e4c0"), looks := false }, kinds := [], alts := [], laidByText := true, laidKinds := [.data, .data, .data], laidTests := true, laidLooks := .later }
def FnExactSealOfCardSaid : Prop := Claim7.holds Tryd.pinned (.plain (OpenSpec.ofChange fnExactSealOfSpec)) fnExactSealOfCard

/-- THE TIED CARD OF 'laws.FnExactSealHolds'. -/
def fnExactSealHoldsCard : Claim7 := { stood := { row := fnExactSealHoldsRow, standIns := [], harness := (true, "6932847bdeaf6de4f4143504c5c13b4e279f030f977c914695a09d23a823e4c0"), looks := false }, kinds := [], alts := [], laidByText := true, laidKinds := [.data, .data, .data], laidTests := true, laidLooks := .later }
def FnExactSealHoldsCardSaid : Prop := Claim7.holds Tryd.pinned (.plain (OpenSpec.ofChange fnExactSealHoldsSpec)) fnExactSealHoldsCard

/-- THE TIED CARD OF 'laws.FnSeals'. -/
def fnSealsCard : Claim7 := { stood := { row := fnSealsRow, standIns := [], harness := (true, "6932847bdeaf6de4f4143504c5c13b4e279f030f977c914695a09d23a823e4c0"), looks := false }, kinds := [], alts := [], laidByText := true, laidKinds := [.data, .data, .data], laidTests := true, laidLooks := .later }
def FnSealsCardSaid : Prop := Claim7.holds Tryd.pinned (.plain (OpenSpec.ofChange fnSealsSpec)) fnSealsCard

/-- THE TIED CARD OF 'laws.FnCues'. -/
def fnCuesCard : Claim7 := { stood := { row := fnCuesRow, standIns := [], harness := (true, "6932847bdeaf6de4f4143504c5c13b4e279f030f977c914695a09d23a823e4c0"), looks := false }, kinds := [], alts := [], laidByText := true, laidKinds := [.data, .data, .data], laidTests := true, laidLooks := .later }
def FnCuesCardSaid : Prop := Claim7.holds Tryd.pinned (.plain (OpenSpec.ofChange fnCuesSpec)) fnCuesCard

/-- THE SECOND FORM's CARD OF 'laws.FnExactCueText'. -/
def fnExactCueTextUptoCard : Claim7 := { stood := { row := fnExactCueTextUptoRow, standIns := [], harness := (true, "6932847bdeaf6de4f4143504c5c13b4e279f030f977c914695a09d23a823e4c0"), looks := false }, kinds := [], alts := [], laidByText := true, laidKinds := [.data, .data, .data], laidTests := true, laidLooks := .later }
def FnExactCueTextUptoCardSaid : Prop := Claim7.holds Tryd.pinned (.plain (OpenSpec.upto fnExactCueTextSpec)) fnExactCueTextUptoCard

/-- THE SECOND FORM's CARD OF 'laws.FnExactSealOf'. -/
def fnExactSealOfUptoCard : Claim7 := { stood := { row := fnExactSealOfUptoRow, standIns := [], harness := (true, "6932847bdeaf6de4f4143504c5c13b4e279f030f977c914695a09d23a823e4c0"), looks := false }, kinds := [], alts := [], laidByText := true, laidKinds := [.data, .data, .data], laidTests := true, laidLooks := .later }
def FnExactSealOfUptoCardSaid : Prop := Claim7.holds Tryd.pinned (.plain (OpenSpec.upto fnExactSealOfSpec)) fnExactSealOfUptoCard

/-- THE SECOND FORM's CARD OF 'laws.FnExactSealHolds'. -/
def fnExactSealHoldsUptoCard : Claim7 := { stood := { row := fnExactSealHoldsUptoRow, standIns := [], harness := (true, "6932847bdeaf6de4f4143504c5c13b4e279f030f977c914695a09d23a823e4c0"), looks := false }, kinds := [], alts := [], laidByText := true, laidKinds := [.data, .data, .data], laidTests := true, laidLooks := .later }
def FnExactSealHoldsUptoCardSaid : Prop := Claim7.holds Tryd.pinned (.plain (OpenSpec.upto fnExactSealHoldsSpec)) fnExactSealHoldsUptoCard

/-- THE SECOND FORM's CARD OF 'laws.FnSeals'. -/
def fnSealsUptoCard : Claim7 := { stood := { row := fnSealsUptoRow, standIns := [], harness := (true, "6932847bdeaf6de4f4143504c5c13b4e279f030f977c914695a09d23a823e4c0"), looks := false }, kinds := [], alts := [], laidByText := true, laidKinds := [.data, .data, .data], laidTests := true, laidLooks := .later }
def FnSealsUptoCardSaid : Prop := Claim7.holds Tryd.pinned (.plain (OpenSpec.upto fnSealsSpec)) fnSealsUptoCard

/-- THE SECOND FORM's CARD OF 'laws.FnCues'. -/
def fnCuesUptoCard : Claim7 := { stood := { row := fnCuesUptoRow, standIns := [], harness := (true, "6932847bdeaf6de4f4143504c5c13b4e279f030f977c914695a09d23a823e4c0"), looks := false }, kinds := [], alts := [], laidByText := true, laidKinds := [.data, .data, .data], laidTests := true, laidLooks := .later }
def FnCuesUptoCardSaid : Prop := Claim7.holds Tryd.pinned (.plain (OpenSpec.upto fnCuesSpec)) fnCuesUptoCard
end Rows
end Go.Proofs.YtogglhgagblihaaDoor
