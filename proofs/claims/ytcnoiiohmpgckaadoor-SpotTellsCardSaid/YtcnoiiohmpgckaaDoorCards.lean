/-
  DERIVED. GIVEN WITH THE SEED: THE CARDS: each row of YtcnoiiohmpgckaaDoorRows.lean that lists a variable, with what it lists TIED to the program's text (the seventh form; the later family's looks); each row that meets fmt, with fmt's text TOLD by the authors' own Lean function (tested against real Go, not proved from fmt's source: count such statements apart). THE CARD IS WHAT COUNTS. Prove the row's statement (the work); the ties are given (YtcnoiiohmpgckaaDoorTie.lean); close each card by the builder's one call (the guide's Derived/Test/ToyasCard.lean, 'card_holds'). Laid BY PROGRAM, IN A SANDBOX (cutbox-door.mjs). By AI agents, Wed Nov 11 2026. No macro, syntax, notation, axiom, sorry.
-/
import Derived.Test.YtcnoiiohmpgckaaDoorRows
import GoSem.ClaimSeven
namespace Go.Proofs.YtcnoiiohmpgckaaDoor
namespace Rows

/-- THE TIED CARD OF 'cairnfieldlaw.SpotTells'. -/
def spotTellsCard : Claim7 := { stood := { row := spotTellsRow, standIns := [], harness := (true, "38c30e1ada151478b137cf944369e1e29ed72afc5df6d45d8952a76b5ec539fe"), looks := false }, kinds := [], alts := [], laidByText := true, laidKinds := [.data], laidTests := true, laidLooks := .later }
def SpotTellsCardSaid : Prop := Claim7.holds Tryd.pinned (.plain (OpenSpec.ofChange spotTellsSpec)) spotTellsCard

/-- THE SECOND FORM's CARD OF 'cairnfieldlaw.SpotTells'. -/
def spotTellsUptoCard : Claim7 := { stood := { row := spotTellsUptoRow, standIns := [], harness := (true, "38c30e1ada151478b137cf944369e1e29ed72afc5df6d45d8952a76b5ec539fe"), looks := false }, kinds := [], alts := [], laidByText := true, laidKinds := [.data], laidTests := true, laidLooks := .later }
def SpotTellsUptoCardSaid : Prop := Claim7.holds Tryd.pinned (.plain (OpenSpec.upto spotTellsSpec)) spotTellsUptoCard
end Rows
end Go.Proofs.YtcnoiiohmpgckaaDoor
