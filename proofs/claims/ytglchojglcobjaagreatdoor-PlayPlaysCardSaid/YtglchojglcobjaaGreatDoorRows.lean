/-
  NARROWER THAN 'FOR EVERY INPUT', by the rows' own cells (each row's printed sentence says how): PlayDoes: laid · PlayPlays: laid.
  DERIVED. THE GIVEN ROWS OF THIS SEAT. 2 by the template 'for every input the law returns true; each argument reads behind the call as it read before'; 0 by the template 'total and deterministic' (their statements: YtglchojglcobjaaGreatDoorTotals.lean).
  GIVEN WITH THE SEED: the statements are not yours to turn. If you find one false, say at which input.
  Laid BY PROGRAM, IN A SANDBOX (cutbox-rows.mjs): the forced cells as the released guide's own fill.sh prints them over the translation b53d3bb7801b0261… (all of the seat's roots in one cut). By AI agents, Wed Nov 11 2026. No macro, syntax, notation, axiom, sorry.
-/
import Derived.Test.YtglchojglcobjaaGreatDoorChecked
import GoSem.Claim
import GoSem.ClaimJoined
import GoSem.ClaimMapViews
import Derived.JoinedTies
import Derived.KernelRfl
namespace Go.Proofs.YtglchojglcobjaaGreatDoor
/- THE CELL 'sum', in the pinned program and in every row, IS THE sha256 OF THE DUMP (.gsa) THAT YtglchojglcobjaaGreatDoorProg.lean LOADS. Nothing in Lean hashes anything: it is a label: what it is worth is what the hold of that sum in a sandbox is worth. -/
noncomputable def Tryz.pinned : Pinned := { name := "ytglchojglcobjaagreatdoor", sum := "b53d3bb7801b0261e69594a6505b382292eed79e82fc12f2285fda3c466c12ba", checked := Tryz.checked }
namespace Rows
def none {H : Type} : Left H := { results := [], args := [] }

/- WHAT THE LISTED PACKAGE-LEVEL VARIABLES READ AS WHEN THE CALL BEGINS. Each datum BY PROGRAM (the guide's laid-datum.mjs) off the statement by which the dump's own 'gosem.cut.vars' lays the variable. In a bare row this is a premise. The card (YtglchojglcobjaaGreatDoorCards.lean) ties it to the program's text. -/
def laid_cairnfield_play_forms {H : Type} : DataW H := .agg [.agg [.lit (.bool false), .lit (.bool false), .lit (.bool false), .lit (.bool false)], .agg [.lit (.bool true), .lit (.bool true), .lit (.bool true), .lit (.bool true)], .agg [.lit (.bool false), .lit (.bool false), .lit (.bool false), .lit (.bool false)], .agg [.lit (.bool true), .lit (.bool true), .lit (.bool true), .lit (.bool false)], .agg [.lit (.bool true), .lit (.bool true), .lit (.bool true), .lit (.bool false)], .agg [.lit (.bool true), .lit (.bool true), .lit (.bool false), .lit (.bool false)], .agg [.lit (.bool true), .lit (.bool true), .lit (.bool false), .lit (.bool true)], .agg [.lit (.bool true), .lit (.bool false), .lit (.bool false), .lit (.bool false)], .agg [.lit (.bool true), .lit (.bool false), .lit (.bool false), .lit (.bool false)], .agg [.lit (.bool true), .lit (.bool true), .lit (.bool false), .lit (.bool false)], .agg [.lit (.bool true), .lit (.bool false), .lit (.bool false), .lit (.bool false)], .agg [.lit (.bool true), .lit (.bool false), .lit (.bool false), .lit (.bool true)], .agg [.lit (.bool false), .lit (.bool false), .lit (.bool false), .lit (.bool true)], .agg [.lit (.bool true), .lit (.bool false), .lit (.bool false), .lit (.bool false)]]

/-- 'cairnfieldlaw.PlayDoes': WHATEVER THE INPUT: true; the input reads as it did. -/
def playDoesSpec : ChangeSpec := { name := "playDoes", fn := fun _ => fun
  | [d1, d2] => { results := [.lit (.bool true)], args := [d1, d2] }
  | _ => none }
def playDoesRow : OpenClaim := { program := "ytglchojglcobjaagreatdoor", sum := "b53d3bb7801b0261e69594a6505b382292eed79e82fc12f2285fda3c466c12ba", func := "cairnfield/cairnfieldlaw.PlayDoes", spec := "playDoes", inPlace := ["slices.overlaps[cairnfield/api.Pin]"], unfollowed := true, recurses := true, named := ["cairnfield/play.forms"], apart := false, laid := [("cairnfield/play.forms", laid_cairnfield_play_forms)] }
def PlayDoesSaid : Prop := playDoesRow.holds Tryz.pinned (OpenSpec.ofChange playDoesSpec)

/-- ITS FALSE NEIGHBOUR: 'it returns false'. Refute it at one input. -/
def playDoesWrong : ChangeSpec := { name := "playDoes", fn := fun _ => fun
  | [d1, d2] => { results := [.lit (.bool false)], args := [d1, d2] }
  | _ => none }
def PlayDoesWrongFalsely : Prop := playDoesRow.holds Tryz.pinned (OpenSpec.ofChange playDoesWrong)

/-- 'cairnfieldlaw.PlayPlays': WHATEVER THE INPUT: true; the input reads as it did. -/
def playPlaysSpec : ChangeSpec := { name := "playPlays", fn := fun _ => fun
  | [d1, d2] => { results := [.lit (.bool true)], args := [d1, d2] }
  | _ => none }
def playPlaysRow : OpenClaim := { program := "ytglchojglcobjaagreatdoor", sum := "b53d3bb7801b0261e69594a6505b382292eed79e82fc12f2285fda3c466c12ba", func := "cairnfield/cairnfieldlaw.PlayPlays", spec := "playPlays", inPlace := ["slices.overlaps[cairnfield/api.Pin]"], unfollowed := true, recurses := true, named := ["cairnfield/play.forms"], apart := false, laid := [("cairnfield/play.forms", laid_cairnfield_play_forms)] }
def PlayPlaysSaid : Prop := playPlaysRow.holds Tryz.pinned (OpenSpec.ofChange playPlaysSpec)

/-- ITS FALSE NEIGHBOUR: 'it returns false'. Refute it at one input. -/
def playPlaysWrong : ChangeSpec := { name := "playPlays", fn := fun _ => fun
  | [d1, d2] => { results := [.lit (.bool false)], args := [d1, d2] }
  | _ => none }
def PlayPlaysWrongFalsely : Prop := playPlaysRow.holds Tryz.pinned (OpenSpec.ofChange playPlaysWrong)

/- THE SECOND FORM. 'bulk': how many values and letters a reading holds, each counted each time it is reached (what is shared counts as often as it is met; a slice's spare places count too). A statement '..UptoSaid' is the law's where the arguments, and the package variables that the reading takes, are together of bulk at most 1048576: NARROWER than '..Said'. Prove '..Said' where nothing that the law and all that it calls make is longer than what came in: it says more and counts as full. Else prove '..UptoSaid'. A law counts once. -/
mutual
def uptoBulk {H : Type} : DataW H → Nat
  | .lit (.string bytes) => bytes.length + 1
  | .lit _ => 1
  | .nil => 1
  | .ptr d => uptoBulk d + 1
  | .slice elems spare => uptoBulkAll elems + uptoBulkAll spare + 1
  | .agg parts => uptoBulkAll parts + 1
  | .iface _ d => uptoBulk d + 1
  | .map entries => uptoBulkEntries entries + 1
  | .held _ => 1
def uptoBulkAll {H : Type} : List (DataW H) → Nat
  | [] => 0
  | d :: r => uptoBulk d + uptoBulkAll r
def uptoBulkEntries {H : Type} : List (Lit × DataW H) → Nat
  | [] => 0
  | x :: r => uptoBulkEntry x + uptoBulkEntries r
def uptoBulkEntry {H : Type} : Lit × DataW H → Nat
  | (.string bytes, d) => bytes.length + uptoBulk d + 1
  | (_, d) => uptoBulk d + 1
 end
def uptoSmall : (H : Type) → List (DataW H) → Bool := fun _ ds => decide (uptoBulkAll ds ≤ 1048576)
def OpenSpec.upto (s : _root_.Go.ChangeSpec) : _root_.Go.OpenSpec := { _root_.Go.OpenSpec.ofChange s with cond := some uptoSmall }

/-- 'cairnfieldlaw.PlayDoes', WHERE WHAT IT READS IS OF BULK AT MOST 1048576: true; the input reads as it did. -/
def playDoesUptoRow : OpenClaim := { program := "ytglchojglcobjaagreatdoor", sum := "b53d3bb7801b0261e69594a6505b382292eed79e82fc12f2285fda3c466c12ba", func := "cairnfield/cairnfieldlaw.PlayDoes", spec := "playDoes", inPlace := ["slices.overlaps[cairnfield/api.Pin]"], unfollowed := true, recurses := true, named := ["cairnfield/play.forms"], apart := false, laid := [("cairnfield/play.forms", laid_cairnfield_play_forms)], narrowed := true }
def PlayDoesUptoSaid : Prop := playDoesUptoRow.holds Tryz.pinned (OpenSpec.upto playDoesSpec)

/-- 'cairnfieldlaw.PlayPlays', WHERE WHAT IT READS IS OF BULK AT MOST 1048576: true; the input reads as it did. -/
def playPlaysUptoRow : OpenClaim := { program := "ytglchojglcobjaagreatdoor", sum := "b53d3bb7801b0261e69594a6505b382292eed79e82fc12f2285fda3c466c12ba", func := "cairnfield/cairnfieldlaw.PlayPlays", spec := "playPlays", inPlace := ["slices.overlaps[cairnfield/api.Pin]"], unfollowed := true, recurses := true, named := ["cairnfield/play.forms"], apart := false, laid := [("cairnfield/play.forms", laid_cairnfield_play_forms)], narrowed := true }
def PlayPlaysUptoSaid : Prop := playPlaysUptoRow.holds Tryz.pinned (OpenSpec.upto playPlaysSpec)

end Rows
end Go.Proofs.YtglchojglcobjaaGreatDoor
