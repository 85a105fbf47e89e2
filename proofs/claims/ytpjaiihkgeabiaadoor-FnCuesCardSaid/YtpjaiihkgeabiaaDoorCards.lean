/-
  DERIVED. GIVEN WITH THE SEED: THE CARDS: each row of YtpjaiihkgeabiaaDoorRows.lean that lists a variable, with what it lists TIED to the program's text (the seventh form; the later family's looks); each row that meets fmt, with fmt's text TOLD by the authors' own Lean function (tested against real Go, not proved from fmt's source: count such statements apart). THE CARD IS WHAT COUNTS. Prove the row's statement (the work); the ties are given (YtpjaiihkgeabiaaDoorTie.lean); close each card by the builder's one call (the guide's Derived/Test/ToyasCard.lean, 'card_holds'). Laid BY PROGRAM, IN A SANDBOX (cutbox-door.mjs). By AI agents, Wed Nov 11 2026. No macro, syntax, notation, axiom, sorry.
-/
import Derived.Test.YtpjaiihkgeabiaaDoorRows
import GoSem.ClaimSeven
namespace Go.Proofs.YtpjaiihkgeabiaaDoor
namespace Rows

/-- THE TIED CARD OF 'laws.FnSeals'. -/
def fnSealsCard : Claim7 := { stood := { row := fnSealsRow, standIns := [], harness := (true, "51534745b5c209b599b3146dd89ebb4aaea6cbe5086dead123aa35457e3b028c"), looks := false }, kinds := [], alts := [], laidByText := true, laidKinds := [.data, .data, .data], laidTests := true, laidLooks := .later }
def FnSealsCardSaid : Prop := Claim7.holds Tryd.pinned (.plain (OpenSpec.ofChange fnSealsSpec)) fnSealsCard

/-- THE TIED CARD OF 'laws.FnCues'. -/
def fnCuesCard : Claim7 := { stood := { row := fnCuesRow, standIns := [], harness := (true, "51534745b5c209b599b3146dd89ebb4aaea6cbe5086dead123aa35457e3b028c"), looks := false }, kinds := [], alts := [], laidByText := true, laidKinds := [.data, .data, .data], laidTests := true, laidLooks := .later }
def FnCuesCardSaid : Prop := Claim7.holds Tryd.pinned (.plain (OpenSpec.ofChange fnCuesSpec)) fnCuesCard

/-- THE SECOND FORM's CARD OF 'laws.FnSeals'. -/
def fnSealsUptoCard : Claim7 := { stood := { row := fnSealsUptoRow, standIns := [], harness := (true, "51534745b5c209b599b3146dd89ebb4aaea6cbe5086dead123aa35457e3b028c"), looks := false }, kinds := [], alts := [], laidByText := true, laidKinds := [.data, .data, .data], laidTests := true, laidLooks := .later }
def FnSealsUptoCardSaid : Prop := Claim7.holds Tryd.pinned (.plain (OpenSpec.upto fnSealsSpec)) fnSealsUptoCard

/-- THE SECOND FORM's CARD OF 'laws.FnCues'. -/
def fnCuesUptoCard : Claim7 := { stood := { row := fnCuesUptoRow, standIns := [], harness := (true, "51534745b5c209b599b3146dd89ebb4aaea6cbe5086dead123aa35457e3b028c"), looks := false }, kinds := [], alts := [], laidByText := true, laidKinds := [.data, .data, .data], laidTests := true, laidLooks := .later }
def FnCuesUptoCardSaid : Prop := Claim7.holds Tryd.pinned (.plain (OpenSpec.upto fnCuesSpec)) fnCuesUptoCard
end Rows
end Go.Proofs.YtpjaiihkgeabiaaDoor
