/-
  No cell of these rows narrows 'for every input' (looked for: loops, veiled, ifaces, maps, wideKeys, modest, calm, conditions, laid).
  DERIVED. THE GIVEN ROWS OF THIS SEAT. 8 by the template 'for every input the law returns true; each argument reads behind the call as it read before'; 0 by the template 'total and deterministic' (their statements: YtcnoiiohmpgckaaTotals.lean).
  GIVEN WITH THE SEED: the statements are not yours to turn. If you find one false, say at which input.
  Laid BY PROGRAM, IN A SANDBOX (cutbox-rows.mjs): the forced cells as the released guide's own fill.sh prints them over the translation 3d4e2de054cb79c4… (all of the seat's roots in one cut). By AI agents, Wed Nov 11 2026. No macro, syntax, notation, axiom, sorry.
-/
import Derived.Test.YtcnoiiohmpgckaaChecked
import GoSem.Claim
import GoSem.ClaimJoined
import GoSem.ClaimMapViews
import Derived.JoinedTies
import Derived.KernelRfl
namespace Go.Proofs.Ytcnoiiohmpgckaa
/- THE CELL 'sum', in the pinned program and in every row, IS THE sha256 OF THE DUMP (.gsa) THAT YtcnoiiohmpgckaaProg.lean LOADS. Nothing in Lean hashes anything: it is a label: what it is worth is what the hold of that sum in a sandbox is worth. -/
noncomputable def Try.pinned : Pinned := { name := "ytcnoiiohmpgckaa", sum := "3d4e2de054cb79c468e0ca04b7f03b101fbbac586c15e532ebd02c01c59f3935", checked := Try.checked }
namespace Rows
def none {H : Type} : Left H := { results := [], args := [] }

/-- 'cairnfieldlaw.TapeOps': WHATEVER THE INPUT: true; the input reads as it did. -/
def tapeOpsSpec : ChangeSpec := { name := "tapeOps", fn := fun _ => fun
  | [d1, d2] => { results := [.lit (.bool true)], args := [d1, d2] }
  | _ => none }
def tapeOpsRow : OpenClaim := { program := "ytcnoiiohmpgckaa", sum := "3d4e2de054cb79c468e0ca04b7f03b101fbbac586c15e532ebd02c01c59f3935", func := "cairnfield/cairnfieldlaw.TapeOps", spec := "tapeOps", recurses := true, apart := false }
def TapeOpsSaid : Prop := tapeOpsRow.holds Try.pinned (OpenSpec.ofChange tapeOpsSpec)

/-- ITS FALSE NEIGHBOUR: 'it returns false'. Refute it at one input. -/
def tapeOpsWrong : ChangeSpec := { name := "tapeOps", fn := fun _ => fun
  | [d1, d2] => { results := [.lit (.bool false)], args := [d1, d2] }
  | _ => none }
def TapeOpsWrongFalsely : Prop := tapeOpsRow.holds Try.pinned (OpenSpec.ofChange tapeOpsWrong)

/-- 'cairnfieldlaw.TwinTells': WHATEVER THE INPUT: true; the input reads as it did. -/
def twinTellsSpec : ChangeSpec := { name := "twinTells", fn := fun _ => fun
  | [d1, d2, d3, d4] => { results := [.lit (.bool true)], args := [d1, d2, d3, d4] }
  | _ => none }
def twinTellsRow : OpenClaim := { program := "ytcnoiiohmpgckaa", sum := "3d4e2de054cb79c468e0ca04b7f03b101fbbac586c15e532ebd02c01c59f3935", func := "cairnfield/cairnfieldlaw.TwinTells", spec := "twinTells", inPlace := ["slices.overlaps[cairnfield/api.Room]"], unfollowed := true, recurses := true, apart := false }
def TwinTellsSaid : Prop := twinTellsRow.holds Try.pinned (OpenSpec.ofChange twinTellsSpec)

/-- ITS FALSE NEIGHBOUR: 'it returns false'. Refute it at one input. -/
def twinTellsWrong : ChangeSpec := { name := "twinTells", fn := fun _ => fun
  | [d1, d2, d3, d4] => { results := [.lit (.bool false)], args := [d1, d2, d3, d4] }
  | _ => none }
def TwinTellsWrongFalsely : Prop := twinTellsRow.holds Try.pinned (OpenSpec.ofChange twinTellsWrong)

/-- 'cairnfieldlaw.TallyTells': WHATEVER THE INPUT: true; the input reads as it did. -/
def tallyTellsSpec : ChangeSpec := { name := "tallyTells", fn := fun _ => fun
  | [d1, d2, d3] => { results := [.lit (.bool true)], args := [d1, d2, d3] }
  | _ => none }
def tallyTellsRow : OpenClaim := { program := "ytcnoiiohmpgckaa", sum := "3d4e2de054cb79c468e0ca04b7f03b101fbbac586c15e532ebd02c01c59f3935", func := "cairnfield/cairnfieldlaw.TallyTells", spec := "tallyTells", unfollowed := true, recurses := true, apart := false }
def TallyTellsSaid : Prop := tallyTellsRow.holds Try.pinned (OpenSpec.ofChange tallyTellsSpec)

/-- ITS FALSE NEIGHBOUR: 'it returns false'. Refute it at one input. -/
def tallyTellsWrong : ChangeSpec := { name := "tallyTells", fn := fun _ => fun
  | [d1, d2, d3] => { results := [.lit (.bool false)], args := [d1, d2, d3] }
  | _ => none }
def TallyTellsWrongFalsely : Prop := tallyTellsRow.holds Try.pinned (OpenSpec.ofChange tallyTellsWrong)

/-- 'cairnfieldlaw.TintTells': WHATEVER THE INPUT: true; the input reads as it did. -/
def tintTellsSpec : ChangeSpec := { name := "tintTells", fn := fun _ => fun
  | [d1, d2, d3] => { results := [.lit (.bool true)], args := [d1, d2, d3] }
  | _ => none }
def tintTellsRow : OpenClaim := { program := "ytcnoiiohmpgckaa", sum := "3d4e2de054cb79c468e0ca04b7f03b101fbbac586c15e532ebd02c01c59f3935", func := "cairnfield/cairnfieldlaw.TintTells", spec := "tintTells", unfollowed := true, recurses := true, apart := false }
def TintTellsSaid : Prop := tintTellsRow.holds Try.pinned (OpenSpec.ofChange tintTellsSpec)

/-- ITS FALSE NEIGHBOUR: 'it returns false'. Refute it at one input. -/
def tintTellsWrong : ChangeSpec := { name := "tintTells", fn := fun _ => fun
  | [d1, d2, d3] => { results := [.lit (.bool false)], args := [d1, d2, d3] }
  | _ => none }
def TintTellsWrongFalsely : Prop := tintTellsRow.holds Try.pinned (OpenSpec.ofChange tintTellsWrong)

/-- 'cairnfieldlaw.StepStarts': WHATEVER THE INPUT: true; the input reads as it did. -/
def stepStartsSpec : ChangeSpec := { name := "stepStarts", fn := fun _ => fun
  | [d1, d2, d3] => { results := [.lit (.bool true)], args := [d1, d2, d3] }
  | _ => none }
def stepStartsRow : OpenClaim := { program := "ytcnoiiohmpgckaa", sum := "3d4e2de054cb79c468e0ca04b7f03b101fbbac586c15e532ebd02c01c59f3935", func := "cairnfield/cairnfieldlaw.StepStarts", spec := "stepStarts", unfollowed := true, recurses := true, apart := false }
def StepStartsSaid : Prop := stepStartsRow.holds Try.pinned (OpenSpec.ofChange stepStartsSpec)

/-- ITS FALSE NEIGHBOUR: 'it returns false'. Refute it at one input. -/
def stepStartsWrong : ChangeSpec := { name := "stepStarts", fn := fun _ => fun
  | [d1, d2, d3] => { results := [.lit (.bool false)], args := [d1, d2, d3] }
  | _ => none }
def StepStartsWrongFalsely : Prop := stepStartsRow.holds Try.pinned (OpenSpec.ofChange stepStartsWrong)

/-- 'cairnfieldlaw.YoungKeeps': WHATEVER THE INPUT: true; the input reads as it did. -/
def youngKeepsSpec : ChangeSpec := { name := "youngKeeps", fn := fun _ => fun
  | [d1, d2] => { results := [.lit (.bool true)], args := [d1, d2] }
  | _ => none }
def youngKeepsRow : OpenClaim := { program := "ytcnoiiohmpgckaa", sum := "3d4e2de054cb79c468e0ca04b7f03b101fbbac586c15e532ebd02c01c59f3935", func := "cairnfield/cairnfieldlaw.YoungKeeps", spec := "youngKeeps", unfollowed := true, recurses := true, apart := false }
def YoungKeepsSaid : Prop := youngKeepsRow.holds Try.pinned (OpenSpec.ofChange youngKeepsSpec)

/-- ITS FALSE NEIGHBOUR: 'it returns false'. Refute it at one input. -/
def youngKeepsWrong : ChangeSpec := { name := "youngKeeps", fn := fun _ => fun
  | [d1, d2] => { results := [.lit (.bool false)], args := [d1, d2] }
  | _ => none }
def YoungKeepsWrongFalsely : Prop := youngKeepsRow.holds Try.pinned (OpenSpec.ofChange youngKeepsWrong)

/-- 'cairnfieldlaw.TapeStore': WHATEVER THE INPUT: true; the input reads as it did. -/
def tapeStoreSpec : ChangeSpec := { name := "tapeStore", fn := fun _ => fun
  | [d1, d2] => { results := [.lit (.bool true)], args := [d1, d2] }
  | _ => none }
def tapeStoreRow : OpenClaim := { program := "ytcnoiiohmpgckaa", sum := "3d4e2de054cb79c468e0ca04b7f03b101fbbac586c15e532ebd02c01c59f3935", func := "cairnfield/cairnfieldlaw.TapeStore", spec := "tapeStore", unfollowed := true, recurses := true, apart := false }
def TapeStoreSaid : Prop := tapeStoreRow.holds Try.pinned (OpenSpec.ofChange tapeStoreSpec)

/-- ITS FALSE NEIGHBOUR: 'it returns false'. Refute it at one input. -/
def tapeStoreWrong : ChangeSpec := { name := "tapeStore", fn := fun _ => fun
  | [d1, d2] => { results := [.lit (.bool false)], args := [d1, d2] }
  | _ => none }
def TapeStoreWrongFalsely : Prop := tapeStoreRow.holds Try.pinned (OpenSpec.ofChange tapeStoreWrong)

/-- 'cairnfieldlaw.StepTells': WHATEVER THE INPUT: true; the input reads as it did. -/
def stepTellsSpec : ChangeSpec := { name := "stepTells", fn := fun _ => fun
  | [d1, d2, d3, d4] => { results := [.lit (.bool true)], args := [d1, d2, d3, d4] }
  | _ => none }
def stepTellsRow : OpenClaim := { program := "ytcnoiiohmpgckaa", sum := "3d4e2de054cb79c468e0ca04b7f03b101fbbac586c15e532ebd02c01c59f3935", func := "cairnfield/cairnfieldlaw.StepTells", spec := "stepTells", inPlace := ["slices.overlaps[int]"], unfollowed := true, recurses := true, apart := false }
def StepTellsSaid : Prop := stepTellsRow.holds Try.pinned (OpenSpec.ofChange stepTellsSpec)

/-- ITS FALSE NEIGHBOUR: 'it returns false'. Refute it at one input. -/
def stepTellsWrong : ChangeSpec := { name := "stepTells", fn := fun _ => fun
  | [d1, d2, d3, d4] => { results := [.lit (.bool false)], args := [d1, d2, d3, d4] }
  | _ => none }
def StepTellsWrongFalsely : Prop := stepTellsRow.holds Try.pinned (OpenSpec.ofChange stepTellsWrong)

/- THE SECOND FORM. 'bulk': how many values and letters a reading holds, each counted each time it is reached (what is shared counts as often as it is met; a slice's spare places count too). A statement '..UptoSaid' is the law's where the arguments, and the package variables that the reading takes, are together of bulk at most 1048576: NARROWER than '..Said'. Prove '..Said' where nothing that the law and all that it calls make is longer than what came in: it says more and counts as full. Else prove '..UptoSaid'. A law counts once. -/
mutual
def uptoBulk {H : Type} : DataW H → Nat
  | .lit (.string bytes) => bytes.length + 1
  | .lit _ => 1
  | .nil => 1
  | .ptr d => uptoBulk d + 1
  | .slice elems spare => uptoBulkAll elems + uptoBulkAll spare + 1
  | .agg parts => uptoBulkAll parts + 1
  | .iface _ d => uptoBulk d + 1
  | .map entries => uptoBulkEntries entries + 1
  | .held _ => 1
def uptoBulkAll {H : Type} : List (DataW H) → Nat
  | [] => 0
  | d :: r => uptoBulk d + uptoBulkAll r
def uptoBulkEntries {H : Type} : List (Lit × DataW H) → Nat
  | [] => 0
  | x :: r => uptoBulkEntry x + uptoBulkEntries r
def uptoBulkEntry {H : Type} : Lit × DataW H → Nat
  | (.string bytes, d) => bytes.length + uptoBulk d + 1
  | (_, d) => uptoBulk d + 1
 end
def uptoSmall : (H : Type) → List (DataW H) → Bool := fun _ ds => decide (uptoBulkAll ds ≤ 1048576)
def OpenSpec.upto (s : _root_.Go.ChangeSpec) : _root_.Go.OpenSpec := { _root_.Go.OpenSpec.ofChange s with cond := some uptoSmall }

/-- 'cairnfieldlaw.TapeOps', WHERE WHAT IT READS IS OF BULK AT MOST 1048576: true; the input reads as it did. -/
def tapeOpsUptoRow : OpenClaim := { program := "ytcnoiiohmpgckaa", sum := "3d4e2de054cb79c468e0ca04b7f03b101fbbac586c15e532ebd02c01c59f3935", func := "cairnfield/cairnfieldlaw.TapeOps", spec := "tapeOps", recurses := true, apart := false, narrowed := true }
def TapeOpsUptoSaid : Prop := tapeOpsUptoRow.holds Try.pinned (OpenSpec.upto tapeOpsSpec)

/-- 'cairnfieldlaw.TwinTells', WHERE WHAT IT READS IS OF BULK AT MOST 1048576: true; the input reads as it did. -/
def twinTellsUptoRow : OpenClaim := { program := "ytcnoiiohmpgckaa", sum := "3d4e2de054cb79c468e0ca04b7f03b101fbbac586c15e532ebd02c01c59f3935", func := "cairnfield/cairnfieldlaw.TwinTells", spec := "twinTells", inPlace := ["slices.overlaps[cairnfield/api.Room]"], unfollowed := true, recurses := true, apart := false, narrowed := true }
def TwinTellsUptoSaid : Prop := twinTellsUptoRow.holds Try.pinned (OpenSpec.upto twinTellsSpec)

/-- 'cairnfieldlaw.TallyTells', WHERE WHAT IT READS IS OF BULK AT MOST 1048576: true; the input reads as it did. -/
def tallyTellsUptoRow : OpenClaim := { program := "ytcnoiiohmpgckaa", sum := "3d4e2de054cb79c468e0ca04b7f03b101fbbac586c15e532ebd02c01c59f3935", func := "cairnfield/cairnfieldlaw.TallyTells", spec := "tallyTells", unfollowed := true, recurses := true, apart := false, narrowed := true }
def TallyTellsUptoSaid : Prop := tallyTellsUptoRow.holds Try.pinned (OpenSpec.upto tallyTellsSpec)

/-- 'cairnfieldlaw.TintTells', WHERE WHAT IT READS IS OF BULK AT MOST 1048576: true; the input reads as it did. -/
def tintTellsUptoRow : OpenClaim := { program := "ytcnoiiohmpgckaa", sum := "3d4e2de054cb79c468e0ca04b7f03b101fbbac586c15e532ebd02c01c59f3935", func := "cairnfield/cairnfieldlaw.TintTells", spec := "tintTells", unfollowed := true, recurses := true, apart := false, narrowed := true }
def TintTellsUptoSaid : Prop := tintTellsUptoRow.holds Try.pinned (OpenSpec.upto tintTellsSpec)

/-- 'cairnfieldlaw.StepStarts', WHERE WHAT IT READS IS OF BULK AT MOST 1048576: true; the input reads as it did. -/
def stepStartsUptoRow : OpenClaim := { program := "ytcnoiiohmpgckaa", sum := "3d4e2de054cb79c468e0ca04b7f03b101fbbac586c15e532ebd02c01c59f3935", func := "cairnfield/cairnfieldlaw.StepStarts", spec := "stepStarts", unfollowed := true, recurses := true, apart := false, narrowed := true }
def StepStartsUptoSaid : Prop := stepStartsUptoRow.holds Try.pinned (OpenSpec.upto stepStartsSpec)

/-- 'cairnfieldlaw.YoungKeeps', WHERE WHAT IT READS IS OF BULK AT MOST 1048576: true; the input reads as it did. -/
def youngKeepsUptoRow : OpenClaim := { program := "ytcnoiiohmpgckaa", sum := "3d4e2de054cb79c468e0ca04b7f03b101fbbac586c15e532ebd02c01c59f3935", func := "cairnfield/cairnfieldlaw.YoungKeeps", spec := "youngKeeps", unfollowed := true, recurses := true, apart := false, narrowed := true }
def YoungKeepsUptoSaid : Prop := youngKeepsUptoRow.holds Try.pinned (OpenSpec.upto youngKeepsSpec)

/-- 'cairnfieldlaw.TapeStore', WHERE WHAT IT READS IS OF BULK AT MOST 1048576: true; the input reads as it did. -/
def tapeStoreUptoRow : OpenClaim := { program := "ytcnoiiohmpgckaa", sum := "3d4e2de054cb79c468e0ca04b7f03b101fbbac586c15e532ebd02c01c59f3935", func := "cairnfield/cairnfieldlaw.TapeStore", spec := "tapeStore", unfollowed := true, recurses := true, apart := false, narrowed := true }
def TapeStoreUptoSaid : Prop := tapeStoreUptoRow.holds Try.pinned (OpenSpec.upto tapeStoreSpec)

/-- 'cairnfieldlaw.StepTells', WHERE WHAT IT READS IS OF BULK AT MOST 1048576: true; the input reads as it did. -/
def stepTellsUptoRow : OpenClaim := { program := "ytcnoiiohmpgckaa", sum := "3d4e2de054cb79c468e0ca04b7f03b101fbbac586c15e532ebd02c01c59f3935", func := "cairnfield/cairnfieldlaw.StepTells", spec := "stepTells", inPlace := ["slices.overlaps[int]"], unfollowed := true, recurses := true, apart := false, narrowed := true }
def StepTellsUptoSaid : Prop := stepTellsUptoRow.holds Try.pinned (OpenSpec.upto stepTellsSpec)

end Rows
end Go.Proofs.Ytcnoiiohmpgckaa
