/-
  DERIVED. GIVEN WITH THE SEED: THE CARDS: each row of YtglchojglcobjaaGreatDoorRows.lean that lists a variable, with what it lists TIED to the program's text (the seventh form; the later family's looks); each row that meets fmt, with fmt's text TOLD by the authors' own Lean function (tested against real Go, not proved from fmt's source: count such statements apart). THE CARD IS WHAT COUNTS. Prove the row's statement (the work); the ties are given (YtglchojglcobjaaGreatDoorTie.lean); close each card by the builder's one call (the guide's Derived/Test/ToyasCard.lean, 'card_holds'). Laid BY PROGRAM, IN A SANDBOX (cutbox-door.mjs). By AI agents, Wed Nov 11 2026. No macro, syntax, notation, axiom, sorry.
-/
import Derived.Test.YtglchojglcobjaaGreatDoorRows
import GoSem.ClaimSeven
namespace Go.Proofs.YtglchojglcobjaaGreatDoor
namespace Rows

/-- THE TIED CARD OF 'cairnfieldlaw.PlayDoes'. -/
def playDoesCard : Claim7 := { stood := { row := playDoesRow, standIns := [], harness := (true, "9f915c2d9785d52cfaaf3fd4bd686d44ca5681a2feeeb930bcc5827446efc12d"), looks := false }, kinds := [], alts := [], laidByText := true, laidKinds := [.data], laidTests := true, laidLooks := .later }
def PlayDoesCardSaid : Prop := Claim7.holds Tryz.pinned (.plain (OpenSpec.ofChange playDoesSpec)) playDoesCard

/-- THE TIED CARD OF 'cairnfieldlaw.PlayPlays'. -/
def playPlaysCard : Claim7 := { stood := { row := playPlaysRow, standIns := [], harness := (true, "9f915c2d9785d52cfaaf3fd4bd686d44ca5681a2feeeb930bcc5827446efc12d"), looks := false }, kinds := [], alts := [], laidByText := true, laidKinds := [.data], laidTests := true, laidLooks := .later }
def PlayPlaysCardSaid : Prop := Claim7.holds Tryz.pinned (.plain (OpenSpec.ofChange playPlaysSpec)) playPlaysCard

/-- THE SECOND FORM's CARD OF 'cairnfieldlaw.PlayDoes'. -/
def playDoesUptoCard : Claim7 := { stood := { row := playDoesUptoRow, standIns := [], harness := (true, "9f915c2d9785d52cfaaf3fd4bd686d44ca5681a2feeeb930bcc5827446efc12d"), looks := false }, kinds := [], alts := [], laidByText := true, laidKinds := [.data], laidTests := true, laidLooks := .later }
def PlayDoesUptoCardSaid : Prop := Claim7.holds Tryz.pinned (.plain (OpenSpec.upto playDoesSpec)) playDoesUptoCard

/-- THE SECOND FORM's CARD OF 'cairnfieldlaw.PlayPlays'. -/
def playPlaysUptoCard : Claim7 := { stood := { row := playPlaysUptoRow, standIns := [], harness := (true, "9f915c2d9785d52cfaaf3fd4bd686d44ca5681a2feeeb930bcc5827446efc12d"), looks := false }, kinds := [], alts := [], laidByText := true, laidKinds := [.data], laidTests := true, laidLooks := .later }
def PlayPlaysUptoCardSaid : Prop := Claim7.holds Tryz.pinned (.plain (OpenSpec.upto playPlaysSpec)) playPlaysUptoCard
end Rows
end Go.Proofs.YtglchojglcobjaaGreatDoor
