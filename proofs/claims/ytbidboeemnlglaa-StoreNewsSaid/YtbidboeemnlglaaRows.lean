/-
  No cell of these rows narrows 'for every input' (looked for: loops, veiled, ifaces, maps, wideKeys, modest, calm, conditions, laid).
  DERIVED. THE GIVEN ROWS OF THIS SEAT. 9 by the template 'for every input the law returns true; each argument reads behind the call as it read before'; 0 by the template 'total and deterministic' (their statements: YtbidboeemnlglaaTotals.lean).
  GIVEN WITH THE SEED: the statements are not yours to turn. If you find one false, say at which input.
  Laid BY PROGRAM, IN A SANDBOX (cutbox-rows.mjs): the forced cells as the released guide's own fill.sh prints them over the translation 01cc5a7ce4afb253… (all of the seat's roots in one cut). By AI agents, Wed Nov 11 2026. No macro, syntax, notation, axiom, sorry.
-/
import Derived.Test.YtbidboeemnlglaaChecked
import GoSem.Claim
import GoSem.ClaimJoined
import GoSem.ClaimMapViews
import Derived.JoinedTies
import Derived.KernelRfl
namespace Go.Proofs.Ytbidboeemnlglaa
/- THE CELL 'sum', in the pinned program and in every row, IS THE sha256 OF THE DUMP (.gsa) THAT YtbidboeemnlglaaProg.lean LOADS. Nothing in Lean hashes anything: it is a label: what it is worth is what the hold of that sum in a sandbox is worth. -/
noncomputable def Try.pinned : Pinned := { name := "ytbidboeemnlglaa", sum := "01cc5a7ce4afb253b41e3dbda9ed960abda52e2bf8a99d4123d6f8a6e17060b4", checked := Try.checked }
namespace Rows
def none {H : Type} : Left H := { results := [], args := [] }

/-- 'cairnfieldlaw.SameTells': WHATEVER THE INPUT: true; the input reads as it did. -/
def sameTellsSpec : ChangeSpec := { name := "sameTells", fn := fun _ => fun
  | [d1, d2, d3, d4] => { results := [.lit (.bool true)], args := [d1, d2, d3, d4] }
  | _ => none }
def sameTellsRow : OpenClaim := { program := "ytbidboeemnlglaa", sum := "01cc5a7ce4afb253b41e3dbda9ed960abda52e2bf8a99d4123d6f8a6e17060b4", func := "cairnfield/cairnfieldlaw.SameTells", spec := "sameTells", unfollowed := true, recurses := true, leaving := true, apart := false }
def SameTellsSaid : Prop := sameTellsRow.holds Try.pinned (OpenSpec.ofChange sameTellsSpec)

/-- ITS FALSE NEIGHBOUR: 'it returns false'. Refute it at one input. -/
def sameTellsWrong : ChangeSpec := { name := "sameTells", fn := fun _ => fun
  | [d1, d2, d3, d4] => { results := [.lit (.bool false)], args := [d1, d2, d3, d4] }
  | _ => none }
def SameTellsWrongFalsely : Prop := sameTellsRow.holds Try.pinned (OpenSpec.ofChange sameTellsWrong)

/-- 'cairnfieldlaw.CarryTells': WHATEVER THE INPUT: true; the input reads as it did. -/
def carryTellsSpec : ChangeSpec := { name := "carryTells", fn := fun _ => fun
  | [d1, d2, d3] => { results := [.lit (.bool true)], args := [d1, d2, d3] }
  | _ => none }
def carryTellsRow : OpenClaim := { program := "ytbidboeemnlglaa", sum := "01cc5a7ce4afb253b41e3dbda9ed960abda52e2bf8a99d4123d6f8a6e17060b4", func := "cairnfield/cairnfieldlaw.CarryTells", spec := "carryTells", unfollowed := true, recurses := true, leaving := true, apart := false }
def CarryTellsSaid : Prop := carryTellsRow.holds Try.pinned (OpenSpec.ofChange carryTellsSpec)

/-- ITS FALSE NEIGHBOUR: 'it returns false'. Refute it at one input. -/
def carryTellsWrong : ChangeSpec := { name := "carryTells", fn := fun _ => fun
  | [d1, d2, d3] => { results := [.lit (.bool false)], args := [d1, d2, d3] }
  | _ => none }
def CarryTellsWrongFalsely : Prop := carryTellsRow.holds Try.pinned (OpenSpec.ofChange carryTellsWrong)

/-- 'cairnfieldlaw.StepStarts': WHATEVER THE INPUT: true; the input reads as it did. -/
def stepStartsSpec : ChangeSpec := { name := "stepStarts", fn := fun _ => fun
  | [d1, d2, d3] => { results := [.lit (.bool true)], args := [d1, d2, d3] }
  | _ => none }
def stepStartsRow : OpenClaim := { program := "ytbidboeemnlglaa", sum := "01cc5a7ce4afb253b41e3dbda9ed960abda52e2bf8a99d4123d6f8a6e17060b4", func := "cairnfield/cairnfieldlaw.StepStarts", spec := "stepStarts", unfollowed := true, recurses := true, leaving := true, apart := false }
def StepStartsSaid : Prop := stepStartsRow.holds Try.pinned (OpenSpec.ofChange stepStartsSpec)

/-- ITS FALSE NEIGHBOUR: 'it returns false'. Refute it at one input. -/
def stepStartsWrong : ChangeSpec := { name := "stepStarts", fn := fun _ => fun
  | [d1, d2, d3] => { results := [.lit (.bool false)], args := [d1, d2, d3] }
  | _ => none }
def StepStartsWrongFalsely : Prop := stepStartsRow.holds Try.pinned (OpenSpec.ofChange stepStartsWrong)

/-- 'cairnfieldlaw.YoungKeeps': WHATEVER THE INPUT: true; the input reads as it did. -/
def youngKeepsSpec : ChangeSpec := { name := "youngKeeps", fn := fun _ => fun
  | [d1, d2] => { results := [.lit (.bool true)], args := [d1, d2] }
  | _ => none }
def youngKeepsRow : OpenClaim := { program := "ytbidboeemnlglaa", sum := "01cc5a7ce4afb253b41e3dbda9ed960abda52e2bf8a99d4123d6f8a6e17060b4", func := "cairnfield/cairnfieldlaw.YoungKeeps", spec := "youngKeeps", unfollowed := true, recurses := true, leaving := true, apart := false }
def YoungKeepsSaid : Prop := youngKeepsRow.holds Try.pinned (OpenSpec.ofChange youngKeepsSpec)

/-- ITS FALSE NEIGHBOUR: 'it returns false'. Refute it at one input. -/
def youngKeepsWrong : ChangeSpec := { name := "youngKeeps", fn := fun _ => fun
  | [d1, d2] => { results := [.lit (.bool false)], args := [d1, d2] }
  | _ => none }
def YoungKeepsWrongFalsely : Prop := youngKeepsRow.holds Try.pinned (OpenSpec.ofChange youngKeepsWrong)

/-- 'cairnfieldlaw.SlideCleans': WHATEVER THE INPUT: true; the input reads as it did. -/
def slideCleansSpec : ChangeSpec := { name := "slideCleans", fn := fun _ => fun
  | [d1, d2, d3] => { results := [.lit (.bool true)], args := [d1, d2, d3] }
  | _ => none }
def slideCleansRow : OpenClaim := { program := "ytbidboeemnlglaa", sum := "01cc5a7ce4afb253b41e3dbda9ed960abda52e2bf8a99d4123d6f8a6e17060b4", func := "cairnfield/cairnfieldlaw.SlideCleans", spec := "slideCleans", unfollowed := true, recurses := true, leaving := true, apart := false }
def SlideCleansSaid : Prop := slideCleansRow.holds Try.pinned (OpenSpec.ofChange slideCleansSpec)

/-- ITS FALSE NEIGHBOUR: 'it returns false'. Refute it at one input. -/
def slideCleansWrong : ChangeSpec := { name := "slideCleans", fn := fun _ => fun
  | [d1, d2, d3] => { results := [.lit (.bool false)], args := [d1, d2, d3] }
  | _ => none }
def SlideCleansWrongFalsely : Prop := slideCleansRow.holds Try.pinned (OpenSpec.ofChange slideCleansWrong)

/-- 'cairnfieldlaw.TapeStore': WHATEVER THE INPUT: true; the input reads as it did. -/
def tapeStoreSpec : ChangeSpec := { name := "tapeStore", fn := fun _ => fun
  | [d1, d2] => { results := [.lit (.bool true)], args := [d1, d2] }
  | _ => none }
def tapeStoreRow : OpenClaim := { program := "ytbidboeemnlglaa", sum := "01cc5a7ce4afb253b41e3dbda9ed960abda52e2bf8a99d4123d6f8a6e17060b4", func := "cairnfield/cairnfieldlaw.TapeStore", spec := "tapeStore", unfollowed := true, recurses := true, leaving := true, apart := false }
def TapeStoreSaid : Prop := tapeStoreRow.holds Try.pinned (OpenSpec.ofChange tapeStoreSpec)

/-- ITS FALSE NEIGHBOUR: 'it returns false'. Refute it at one input. -/
def tapeStoreWrong : ChangeSpec := { name := "tapeStore", fn := fun _ => fun
  | [d1, d2] => { results := [.lit (.bool false)], args := [d1, d2] }
  | _ => none }
def TapeStoreWrongFalsely : Prop := tapeStoreRow.holds Try.pinned (OpenSpec.ofChange tapeStoreWrong)

/-- 'cairnfieldlaw.StoreNews': WHATEVER THE INPUT: true; the input reads as it did. -/
def storeNewsSpec : ChangeSpec := { name := "storeNews", fn := fun _ => fun
  | [d1, d2, d3, d4] => { results := [.lit (.bool true)], args := [d1, d2, d3, d4] }
  | _ => none }
def storeNewsRow : OpenClaim := { program := "ytbidboeemnlglaa", sum := "01cc5a7ce4afb253b41e3dbda9ed960abda52e2bf8a99d4123d6f8a6e17060b4", func := "cairnfield/cairnfieldlaw.StoreNews", spec := "storeNews", unfollowed := true, recurses := true, leaving := true, apart := false }
def StoreNewsSaid : Prop := storeNewsRow.holds Try.pinned (OpenSpec.ofChange storeNewsSpec)

/-- ITS FALSE NEIGHBOUR: 'it returns false'. Refute it at one input. -/
def storeNewsWrong : ChangeSpec := { name := "storeNews", fn := fun _ => fun
  | [d1, d2, d3, d4] => { results := [.lit (.bool false)], args := [d1, d2, d3, d4] }
  | _ => none }
def StoreNewsWrongFalsely : Prop := storeNewsRow.holds Try.pinned (OpenSpec.ofChange storeNewsWrong)

/-- 'cairnfieldlaw.StepTells': WHATEVER THE INPUT: true; the input reads as it did. -/
def stepTellsSpec : ChangeSpec := { name := "stepTells", fn := fun _ => fun
  | [d1, d2, d3, d4] => { results := [.lit (.bool true)], args := [d1, d2, d3, d4] }
  | _ => none }
def stepTellsRow : OpenClaim := { program := "ytbidboeemnlglaa", sum := "01cc5a7ce4afb253b41e3dbda9ed960abda52e2bf8a99d4123d6f8a6e17060b4", func := "cairnfield/cairnfieldlaw.StepTells", spec := "stepTells", inPlace := ["slices.overlaps[int]"], unfollowed := true, recurses := true, leaving := true, apart := false }
def StepTellsSaid : Prop := stepTellsRow.holds Try.pinned (OpenSpec.ofChange stepTellsSpec)

/-- ITS FALSE NEIGHBOUR: 'it returns false'. Refute it at one input. -/
def stepTellsWrong : ChangeSpec := { name := "stepTells", fn := fun _ => fun
  | [d1, d2, d3, d4] => { results := [.lit (.bool false)], args := [d1, d2, d3, d4] }
  | _ => none }
def StepTellsWrongFalsely : Prop := stepTellsRow.holds Try.pinned (OpenSpec.ofChange stepTellsWrong)

/-- 'cairnfieldlaw.SideTells': WHATEVER THE INPUT: true; the input reads as it did. -/
def sideTellsSpec : ChangeSpec := { name := "sideTells", fn := fun _ => fun
  | [d1, d2] => { results := [.lit (.bool true)], args := [d1, d2] }
  | _ => none }
def sideTellsRow : OpenClaim := { program := "ytbidboeemnlglaa", sum := "01cc5a7ce4afb253b41e3dbda9ed960abda52e2bf8a99d4123d6f8a6e17060b4", func := "cairnfield/cairnfieldlaw.SideTells", spec := "sideTells", inPlace := ["(*sync.WaitGroup).Add", "internal/race.ReleaseMerge", "internal/race.Disable", "internal/race.Enable", "internal/synctest.IsInBubble", "internal/synctest.Associate[sync.WaitGroup]", "sync.fatal", "sync/atomic.OrUint64", "sync/atomic.AddUint64", "internal/race.Read", "sync/atomic.LoadUint64", "sync/atomic.StoreUint64", "internal/synctest.Disassociate[sync.WaitGroup]", "sync.runtime_Semrelease", "(*sync.WaitGroup).Done", "sync/atomic.AddInt64", "(*sync.WaitGroup).Wait", "internal/race.Acquire", "internal/synctest.IsAssociated[sync.WaitGroup]", "sync/atomic.CompareAndSwapUint64", "internal/race.Write", "sync.runtime_SemacquireWaitGroup", "sync/atomic.LoadInt64"], unfollowed := true, recurses := true, leaving := true, apart := false }
def SideTellsSaid : Prop := sideTellsRow.holds Try.pinned (OpenSpec.ofChange sideTellsSpec)

/-- ITS FALSE NEIGHBOUR: 'it returns false'. Refute it at one input. -/
def sideTellsWrong : ChangeSpec := { name := "sideTells", fn := fun _ => fun
  | [d1, d2] => { results := [.lit (.bool false)], args := [d1, d2] }
  | _ => none }
def SideTellsWrongFalsely : Prop := sideTellsRow.holds Try.pinned (OpenSpec.ofChange sideTellsWrong)

/- THE SECOND FORM. 'bulk': how many values and letters a reading holds, each counted each time it is reached (what is shared counts as often as it is met; a slice's spare places count too). A statement '..UptoSaid' is the law's where the arguments, and the package variables that the reading takes, are together of bulk at most 1048576: NARROWER than '..Said'. Prove '..Said' where nothing that the law and all that it calls make is longer than what came in: it says more and counts as full. Else prove '..UptoSaid'. A law counts once. -/
mutual
def uptoBulk {H : Type} : DataW H → Nat
  | .lit (.string bytes) => bytes.length + 1
  | .lit _ => 1
  | .nil => 1
  | .ptr d => uptoBulk d + 1
  | .slice elems spare => uptoBulkAll elems + uptoBulkAll spare + 1
  | .agg parts => uptoBulkAll parts + 1
  | .iface _ d => uptoBulk d + 1
  | .map entries => uptoBulkEntries entries + 1
  | .held _ => 1
def uptoBulkAll {H : Type} : List (DataW H) → Nat
  | [] => 0
  | d :: r => uptoBulk d + uptoBulkAll r
def uptoBulkEntries {H : Type} : List (Lit × DataW H) → Nat
  | [] => 0
  | x :: r => uptoBulkEntry x + uptoBulkEntries r
def uptoBulkEntry {H : Type} : Lit × DataW H → Nat
  | (.string bytes, d) => bytes.length + uptoBulk d + 1
  | (_, d) => uptoBulk d + 1
 end
def uptoSmall : (H : Type) → List (DataW H) → Bool := fun _ ds => decide (uptoBulkAll ds ≤ 1048576)
def OpenSpec.upto (s : _root_.Go.ChangeSpec) : _root_.Go.OpenSpec := { _root_.Go.OpenSpec.ofChange s with cond := some uptoSmall }

/-- 'cairnfieldlaw.SameTells', WHERE WHAT IT READS IS OF BULK AT MOST 1048576: true; the input reads as it did. -/
def sameTellsUptoRow : OpenClaim := { program := "ytbidboeemnlglaa", sum := "01cc5a7ce4afb253b41e3dbda9ed960abda52e2bf8a99d4123d6f8a6e17060b4", func := "cairnfield/cairnfieldlaw.SameTells", spec := "sameTells", unfollowed := true, recurses := true, leaving := true, apart := false, narrowed := true }
def SameTellsUptoSaid : Prop := sameTellsUptoRow.holds Try.pinned (OpenSpec.upto sameTellsSpec)

/-- 'cairnfieldlaw.CarryTells', WHERE WHAT IT READS IS OF BULK AT MOST 1048576: true; the input reads as it did. -/
def carryTellsUptoRow : OpenClaim := { program := "ytbidboeemnlglaa", sum := "01cc5a7ce4afb253b41e3dbda9ed960abda52e2bf8a99d4123d6f8a6e17060b4", func := "cairnfield/cairnfieldlaw.CarryTells", spec := "carryTells", unfollowed := true, recurses := true, leaving := true, apart := false, narrowed := true }
def CarryTellsUptoSaid : Prop := carryTellsUptoRow.holds Try.pinned (OpenSpec.upto carryTellsSpec)

/-- 'cairnfieldlaw.StepStarts', WHERE WHAT IT READS IS OF BULK AT MOST 1048576: true; the input reads as it did. -/
def stepStartsUptoRow : OpenClaim := { program := "ytbidboeemnlglaa", sum := "01cc5a7ce4afb253b41e3dbda9ed960abda52e2bf8a99d4123d6f8a6e17060b4", func := "cairnfield/cairnfieldlaw.StepStarts", spec := "stepStarts", unfollowed := true, recurses := true, leaving := true, apart := false, narrowed := true }
def StepStartsUptoSaid : Prop := stepStartsUptoRow.holds Try.pinned (OpenSpec.upto stepStartsSpec)

/-- 'cairnfieldlaw.YoungKeeps', WHERE WHAT IT READS IS OF BULK AT MOST 1048576: true; the input reads as it did. -/
def youngKeepsUptoRow : OpenClaim := { program := "ytbidboeemnlglaa", sum := "01cc5a7ce4afb253b41e3dbda9ed960abda52e2bf8a99d4123d6f8a6e17060b4", func := "cairnfield/cairnfieldlaw.YoungKeeps", spec := "youngKeeps", unfollowed := true, recurses := true, leaving := true, apart := false, narrowed := true }
def YoungKeepsUptoSaid : Prop := youngKeepsUptoRow.holds Try.pinned (OpenSpec.upto youngKeepsSpec)

/-- 'cairnfieldlaw.SlideCleans', WHERE WHAT IT READS IS OF BULK AT MOST 1048576: true; the input reads as it did. -/
def slideCleansUptoRow : OpenClaim := { program := "ytbidboeemnlglaa", sum := "01cc5a7ce4afb253b41e3dbda9ed960abda52e2bf8a99d4123d6f8a6e17060b4", func := "cairnfield/cairnfieldlaw.SlideCleans", spec := "slideCleans", unfollowed := true, recurses := true, leaving := true, apart := false, narrowed := true }
def SlideCleansUptoSaid : Prop := slideCleansUptoRow.holds Try.pinned (OpenSpec.upto slideCleansSpec)

/-- 'cairnfieldlaw.TapeStore', WHERE WHAT IT READS IS OF BULK AT MOST 1048576: true; the input reads as it did. -/
def tapeStoreUptoRow : OpenClaim := { program := "ytbidboeemnlglaa", sum := "01cc5a7ce4afb253b41e3dbda9ed960abda52e2bf8a99d4123d6f8a6e17060b4", func := "cairnfield/cairnfieldlaw.TapeStore", spec := "tapeStore", unfollowed := true, recurses := true, leaving := true, apart := false, narrowed := true }
def TapeStoreUptoSaid : Prop := tapeStoreUptoRow.holds Try.pinned (OpenSpec.upto tapeStoreSpec)

/-- 'cairnfieldlaw.StoreNews', WHERE WHAT IT READS IS OF BULK AT MOST 1048576: true; the input reads as it did. -/
def storeNewsUptoRow : OpenClaim := { program := "ytbidboeemnlglaa", sum := "01cc5a7ce4afb253b41e3dbda9ed960abda52e2bf8a99d4123d6f8a6e17060b4", func := "cairnfield/cairnfieldlaw.StoreNews", spec := "storeNews", unfollowed := true, recurses := true, leaving := true, apart := false, narrowed := true }
def StoreNewsUptoSaid : Prop := storeNewsUptoRow.holds Try.pinned (OpenSpec.upto storeNewsSpec)

/-- 'cairnfieldlaw.StepTells', WHERE WHAT IT READS IS OF BULK AT MOST 1048576: true; the input reads as it did. -/
def stepTellsUptoRow : OpenClaim := { program := "ytbidboeemnlglaa", sum := "01cc5a7ce4afb253b41e3dbda9ed960abda52e2bf8a99d4123d6f8a6e17060b4", func := "cairnfield/cairnfieldlaw.StepTells", spec := "stepTells", inPlace := ["slices.overlaps[int]"], unfollowed := true, recurses := true, leaving := true, apart := false, narrowed := true }
def StepTellsUptoSaid : Prop := stepTellsUptoRow.holds Try.pinned (OpenSpec.upto stepTellsSpec)

/-- 'cairnfieldlaw.SideTells', WHERE WHAT IT READS IS OF BULK AT MOST 1048576: true; the input reads as it did. -/
def sideTellsUptoRow : OpenClaim := { program := "ytbidboeemnlglaa", sum := "01cc5a7ce4afb253b41e3dbda9ed960abda52e2bf8a99d4123d6f8a6e17060b4", func := "cairnfield/cairnfieldlaw.SideTells", spec := "sideTells", inPlace := ["(*sync.WaitGroup).Add", "internal/race.ReleaseMerge", "internal/race.Disable", "internal/race.Enable", "internal/synctest.IsInBubble", "internal/synctest.Associate[sync.WaitGroup]", "sync.fatal", "sync/atomic.OrUint64", "sync/atomic.AddUint64", "internal/race.Read", "sync/atomic.LoadUint64", "sync/atomic.StoreUint64", "internal/synctest.Disassociate[sync.WaitGroup]", "sync.runtime_Semrelease", "(*sync.WaitGroup).Done", "sync/atomic.AddInt64", "(*sync.WaitGroup).Wait", "internal/race.Acquire", "internal/synctest.IsAssociated[sync.WaitGroup]", "sync/atomic.CompareAndSwapUint64", "internal/race.Write", "sync.runtime_SemacquireWaitGroup", "sync/atomic.LoadInt64"], unfollowed := true, recurses := true, leaving := true, apart := false, narrowed := true }
def SideTellsUptoSaid : Prop := sideTellsUptoRow.holds Try.pinned (OpenSpec.upto sideTellsSpec)

end Rows
end Go.Proofs.Ytbidboeemnlglaa
