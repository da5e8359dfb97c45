/-
  No cell of these rows narrows 'for every input' (looked for: loops, veiled, ifaces, maps, wideKeys, modest, calm, conditions, laid).
  DERIVED. THE GIVEN ROWS OF THIS SEAT. 12 by the template 'for every input the law returns true; each argument reads behind the call as it read before'; 0 by the template 'total and deterministic' (their statements: YtgnamdjmjkeodaaTotals.lean).
  GIVEN WITH THE SEED: the statements are not yours to turn. If you find one false, say at which input.
  Laid BY PROGRAM, IN A SANDBOX (cutbox-rows.mjs): the forced cells as the released guide's own fill.sh prints them over the translation 3e2b743e03aaf30c… (all of the seat's roots in one cut). By AI agents, Wed Nov 11 2026. No macro, syntax, notation, axiom, sorry.
-/
import Derived.Test.YtgnamdjmjkeodaaChecked
import GoSem.Claim
import GoSem.ClaimJoined
import GoSem.ClaimMapViews
import Derived.JoinedTies
import Derived.KernelRfl
namespace Go.Proofs.Ytgnamdjmjkeodaa
/- THE CELL 'sum', in the pinned program and in every row, IS THE sha256 OF THE DUMP (.gsa) THAT YtgnamdjmjkeodaaProg.lean LOADS. Nothing in Lean hashes anything: it is a label: what it is worth is what the hold of that sum in a sandbox is worth. -/
noncomputable def Try.pinned : Pinned := { name := "ytgnamdjmjkeodaa", sum := "3e2b743e03aaf30c58ec7318d517d50aadf880b00cb2e7fc14108bc9f4e42d70", checked := Try.checked }
namespace Rows
def none {H : Type} : Left H := { results := [], args := [] }

/-- 'cairnfieldlaw.SameBuilds': WHATEVER THE INPUT: true; the input reads as it did. -/
def sameBuildsSpec : ChangeSpec := { name := "sameBuilds", fn := fun _ => fun
  | [d1, d2] => { results := [.lit (.bool true)], args := [d1, d2] }
  | _ => none }
def sameBuildsRow : OpenClaim := { program := "ytgnamdjmjkeodaa", sum := "3e2b743e03aaf30c58ec7318d517d50aadf880b00cb2e7fc14108bc9f4e42d70", func := "cairnfield/cairnfieldlaw.SameBuilds", spec := "sameBuilds", apart := false }
def SameBuildsSaid : Prop := sameBuildsRow.holds Try.pinned (OpenSpec.ofChange sameBuildsSpec)

/-- ITS FALSE NEIGHBOUR: 'it returns false'. Refute it at one input. -/
def sameBuildsWrong : ChangeSpec := { name := "sameBuilds", fn := fun _ => fun
  | [d1, d2] => { results := [.lit (.bool false)], args := [d1, d2] }
  | _ => none }
def SameBuildsWrongFalsely : Prop := sameBuildsRow.holds Try.pinned (OpenSpec.ofChange sameBuildsWrong)

/-- 'cairnfieldlaw.PlanTells': WHATEVER THE INPUT: true; the input reads as it did. -/
def planTellsSpec : ChangeSpec := { name := "planTells", fn := fun _ => fun
  | [d1, d2, d3] => { results := [.lit (.bool true)], args := [d1, d2, d3] }
  | _ => none }
def planTellsRow : OpenClaim := { program := "ytgnamdjmjkeodaa", sum := "3e2b743e03aaf30c58ec7318d517d50aadf880b00cb2e7fc14108bc9f4e42d70", func := "cairnfield/cairnfieldlaw.PlanTells", spec := "planTells", unfollowed := true, recurses := true, apart := false }
def PlanTellsSaid : Prop := planTellsRow.holds Try.pinned (OpenSpec.ofChange planTellsSpec)

/-- ITS FALSE NEIGHBOUR: 'it returns false'. Refute it at one input. -/
def planTellsWrong : ChangeSpec := { name := "planTells", fn := fun _ => fun
  | [d1, d2, d3] => { results := [.lit (.bool false)], args := [d1, d2, d3] }
  | _ => none }
def PlanTellsWrongFalsely : Prop := planTellsRow.holds Try.pinned (OpenSpec.ofChange planTellsWrong)

/-- 'cairnfieldlaw.PinTells': WHATEVER THE INPUT: true; the input reads as it did. -/
def pinTellsSpec : ChangeSpec := { name := "pinTells", fn := fun _ => fun
  | [d1, d2] => { results := [.lit (.bool true)], args := [d1, d2] }
  | _ => none }
def pinTellsRow : OpenClaim := { program := "ytgnamdjmjkeodaa", sum := "3e2b743e03aaf30c58ec7318d517d50aadf880b00cb2e7fc14108bc9f4e42d70", func := "cairnfield/cairnfieldlaw.PinTells", spec := "pinTells", inPlace := ["slices.overlaps[cairnfield/api.Pin]"], unfollowed := true, recurses := true, apart := false }
def PinTellsSaid : Prop := pinTellsRow.holds Try.pinned (OpenSpec.ofChange pinTellsSpec)

/-- ITS FALSE NEIGHBOUR: 'it returns false'. Refute it at one input. -/
def pinTellsWrong : ChangeSpec := { name := "pinTells", fn := fun _ => fun
  | [d1, d2] => { results := [.lit (.bool false)], args := [d1, d2] }
  | _ => none }
def PinTellsWrongFalsely : Prop := pinTellsRow.holds Try.pinned (OpenSpec.ofChange pinTellsWrong)

/-- 'cairnfieldlaw.GapTells': WHATEVER THE INPUT: true; the input reads as it did. -/
def gapTellsSpec : ChangeSpec := { name := "gapTells", fn := fun _ => fun
  | [d1, d2, d3] => { results := [.lit (.bool true)], args := [d1, d2, d3] }
  | _ => none }
def gapTellsRow : OpenClaim := { program := "ytgnamdjmjkeodaa", sum := "3e2b743e03aaf30c58ec7318d517d50aadf880b00cb2e7fc14108bc9f4e42d70", func := "cairnfield/cairnfieldlaw.GapTells", spec := "gapTells", unfollowed := true, recurses := true, apart := false }
def GapTellsSaid : Prop := gapTellsRow.holds Try.pinned (OpenSpec.ofChange gapTellsSpec)

/-- ITS FALSE NEIGHBOUR: 'it returns false'. Refute it at one input. -/
def gapTellsWrong : ChangeSpec := { name := "gapTells", fn := fun _ => fun
  | [d1, d2, d3] => { results := [.lit (.bool false)], args := [d1, d2, d3] }
  | _ => none }
def GapTellsWrongFalsely : Prop := gapTellsRow.holds Try.pinned (OpenSpec.ofChange gapTellsWrong)

/-- 'cairnfieldlaw.SlideTells': WHATEVER THE INPUT: true; the input reads as it did. -/
def slideTellsSpec : ChangeSpec := { name := "slideTells", fn := fun _ => fun
  | [d1, d2, d3] => { results := [.lit (.bool true)], args := [d1, d2, d3] }
  | _ => none }
def slideTellsRow : OpenClaim := { program := "ytgnamdjmjkeodaa", sum := "3e2b743e03aaf30c58ec7318d517d50aadf880b00cb2e7fc14108bc9f4e42d70", func := "cairnfield/cairnfieldlaw.SlideTells", spec := "slideTells", unfollowed := true, recurses := true, apart := false }
def SlideTellsSaid : Prop := slideTellsRow.holds Try.pinned (OpenSpec.ofChange slideTellsSpec)

/-- ITS FALSE NEIGHBOUR: 'it returns false'. Refute it at one input. -/
def slideTellsWrong : ChangeSpec := { name := "slideTells", fn := fun _ => fun
  | [d1, d2, d3] => { results := [.lit (.bool false)], args := [d1, d2, d3] }
  | _ => none }
def SlideTellsWrongFalsely : Prop := slideTellsRow.holds Try.pinned (OpenSpec.ofChange slideTellsWrong)

/-- 'cairnfieldlaw.TwinTells': WHATEVER THE INPUT: true; the input reads as it did. -/
def twinTellsSpec : ChangeSpec := { name := "twinTells", fn := fun _ => fun
  | [d1, d2, d3, d4] => { results := [.lit (.bool true)], args := [d1, d2, d3, d4] }
  | _ => none }
def twinTellsRow : OpenClaim := { program := "ytgnamdjmjkeodaa", sum := "3e2b743e03aaf30c58ec7318d517d50aadf880b00cb2e7fc14108bc9f4e42d70", func := "cairnfield/cairnfieldlaw.TwinTells", spec := "twinTells", inPlace := ["slices.overlaps[cairnfield/api.Room]"], unfollowed := true, recurses := true, apart := false }
def TwinTellsSaid : Prop := twinTellsRow.holds Try.pinned (OpenSpec.ofChange twinTellsSpec)

/-- ITS FALSE NEIGHBOUR: 'it returns false'. Refute it at one input. -/
def twinTellsWrong : ChangeSpec := { name := "twinTells", fn := fun _ => fun
  | [d1, d2, d3, d4] => { results := [.lit (.bool false)], args := [d1, d2, d3, d4] }
  | _ => none }
def TwinTellsWrongFalsely : Prop := twinTellsRow.holds Try.pinned (OpenSpec.ofChange twinTellsWrong)

/-- 'cairnfieldlaw.YoungTells': WHATEVER THE INPUT: true; the input reads as it did. -/
def youngTellsSpec : ChangeSpec := { name := "youngTells", fn := fun _ => fun
  | [d1, d2, d3, d4] => { results := [.lit (.bool true)], args := [d1, d2, d3, d4] }
  | _ => none }
def youngTellsRow : OpenClaim := { program := "ytgnamdjmjkeodaa", sum := "3e2b743e03aaf30c58ec7318d517d50aadf880b00cb2e7fc14108bc9f4e42d70", func := "cairnfield/cairnfieldlaw.YoungTells", spec := "youngTells", inPlace := ["slices.overlaps[int]"], unfollowed := true, recurses := true, apart := false }
def YoungTellsSaid : Prop := youngTellsRow.holds Try.pinned (OpenSpec.ofChange youngTellsSpec)

/-- ITS FALSE NEIGHBOUR: 'it returns false'. Refute it at one input. -/
def youngTellsWrong : ChangeSpec := { name := "youngTells", fn := fun _ => fun
  | [d1, d2, d3, d4] => { results := [.lit (.bool false)], args := [d1, d2, d3, d4] }
  | _ => none }
def YoungTellsWrongFalsely : Prop := youngTellsRow.holds Try.pinned (OpenSpec.ofChange youngTellsWrong)

/-- 'cairnfieldlaw.RootTells': WHATEVER THE INPUT: true; the input reads as it did. -/
def rootTellsSpec : ChangeSpec := { name := "rootTells", fn := fun _ => fun
  | [d1, d2, d3, d4, d5] => { results := [.lit (.bool true)], args := [d1, d2, d3, d4, d5] }
  | _ => none }
def rootTellsRow : OpenClaim := { program := "ytgnamdjmjkeodaa", sum := "3e2b743e03aaf30c58ec7318d517d50aadf880b00cb2e7fc14108bc9f4e42d70", func := "cairnfield/cairnfieldlaw.RootTells", spec := "rootTells", unfollowed := true, recurses := true, apart := false }
def RootTellsSaid : Prop := rootTellsRow.holds Try.pinned (OpenSpec.ofChange rootTellsSpec)

/-- ITS FALSE NEIGHBOUR: 'it returns false'. Refute it at one input. -/
def rootTellsWrong : ChangeSpec := { name := "rootTells", fn := fun _ => fun
  | [d1, d2, d3, d4, d5] => { results := [.lit (.bool false)], args := [d1, d2, d3, d4, d5] }
  | _ => none }
def RootTellsWrongFalsely : Prop := rootTellsRow.holds Try.pinned (OpenSpec.ofChange rootTellsWrong)

/-- 'cairnfieldlaw.FaintTells': WHATEVER THE INPUT: true; the input reads as it did. -/
def faintTellsSpec : ChangeSpec := { name := "faintTells", fn := fun _ => fun
  | [d1, d2, d3] => { results := [.lit (.bool true)], args := [d1, d2, d3] }
  | _ => none }
def faintTellsRow : OpenClaim := { program := "ytgnamdjmjkeodaa", sum := "3e2b743e03aaf30c58ec7318d517d50aadf880b00cb2e7fc14108bc9f4e42d70", func := "cairnfield/cairnfieldlaw.FaintTells", spec := "faintTells", unfollowed := true, recurses := true, apart := false }
def FaintTellsSaid : Prop := faintTellsRow.holds Try.pinned (OpenSpec.ofChange faintTellsSpec)

/-- ITS FALSE NEIGHBOUR: 'it returns false'. Refute it at one input. -/
def faintTellsWrong : ChangeSpec := { name := "faintTells", fn := fun _ => fun
  | [d1, d2, d3] => { results := [.lit (.bool false)], args := [d1, d2, d3] }
  | _ => none }
def FaintTellsWrongFalsely : Prop := faintTellsRow.holds Try.pinned (OpenSpec.ofChange faintTellsWrong)

/-- 'cairnfieldlaw.TallyTells': WHATEVER THE INPUT: true; the input reads as it did. -/
def tallyTellsSpec : ChangeSpec := { name := "tallyTells", fn := fun _ => fun
  | [d1, d2, d3] => { results := [.lit (.bool true)], args := [d1, d2, d3] }
  | _ => none }
def tallyTellsRow : OpenClaim := { program := "ytgnamdjmjkeodaa", sum := "3e2b743e03aaf30c58ec7318d517d50aadf880b00cb2e7fc14108bc9f4e42d70", func := "cairnfield/cairnfieldlaw.TallyTells", spec := "tallyTells", unfollowed := true, recurses := true, apart := false }
def TallyTellsSaid : Prop := tallyTellsRow.holds Try.pinned (OpenSpec.ofChange tallyTellsSpec)

/-- ITS FALSE NEIGHBOUR: 'it returns false'. Refute it at one input. -/
def tallyTellsWrong : ChangeSpec := { name := "tallyTells", fn := fun _ => fun
  | [d1, d2, d3] => { results := [.lit (.bool false)], args := [d1, d2, d3] }
  | _ => none }
def TallyTellsWrongFalsely : Prop := tallyTellsRow.holds Try.pinned (OpenSpec.ofChange tallyTellsWrong)

/-- 'cairnfieldlaw.FaintLast': WHATEVER THE INPUT: true; the input reads as it did. -/
def faintLastSpec : ChangeSpec := { name := "faintLast", fn := fun _ => fun
  | [d1, d2, d3] => { results := [.lit (.bool true)], args := [d1, d2, d3] }
  | _ => none }
def faintLastRow : OpenClaim := { program := "ytgnamdjmjkeodaa", sum := "3e2b743e03aaf30c58ec7318d517d50aadf880b00cb2e7fc14108bc9f4e42d70", func := "cairnfield/cairnfieldlaw.FaintLast", spec := "faintLast", unfollowed := true, recurses := true, apart := false }
def FaintLastSaid : Prop := faintLastRow.holds Try.pinned (OpenSpec.ofChange faintLastSpec)

/-- ITS FALSE NEIGHBOUR: 'it returns false'. Refute it at one input. -/
def faintLastWrong : ChangeSpec := { name := "faintLast", fn := fun _ => fun
  | [d1, d2, d3] => { results := [.lit (.bool false)], args := [d1, d2, d3] }
  | _ => none }
def FaintLastWrongFalsely : Prop := faintLastRow.holds Try.pinned (OpenSpec.ofChange faintLastWrong)

/-- 'cairnfieldlaw.TintTells': WHATEVER THE INPUT: true; the input reads as it did. -/
def tintTellsSpec : ChangeSpec := { name := "tintTells", fn := fun _ => fun
  | [d1, d2, d3] => { results := [.lit (.bool true)], args := [d1, d2, d3] }
  | _ => none }
def tintTellsRow : OpenClaim := { program := "ytgnamdjmjkeodaa", sum := "3e2b743e03aaf30c58ec7318d517d50aadf880b00cb2e7fc14108bc9f4e42d70", func := "cairnfield/cairnfieldlaw.TintTells", spec := "tintTells", unfollowed := true, recurses := true, apart := false }
def TintTellsSaid : Prop := tintTellsRow.holds Try.pinned (OpenSpec.ofChange tintTellsSpec)

/-- ITS FALSE NEIGHBOUR: 'it returns false'. Refute it at one input. -/
def tintTellsWrong : ChangeSpec := { name := "tintTells", fn := fun _ => fun
  | [d1, d2, d3] => { results := [.lit (.bool false)], args := [d1, d2, d3] }
  | _ => none }
def TintTellsWrongFalsely : Prop := tintTellsRow.holds Try.pinned (OpenSpec.ofChange tintTellsWrong)

/- THE SECOND FORM. 'bulk': how many values and letters a reading holds, each counted each time it is reached (what is shared counts as often as it is met; a slice's spare places count too). A statement '..UptoSaid' is the law's where the arguments, and the package variables that the reading takes, are together of bulk at most 1048576: NARROWER than '..Said'. Prove '..Said' where nothing that the law and all that it calls make is longer than what came in: it says more and counts as full. Else prove '..UptoSaid'. A law counts once. -/
mutual
def uptoBulk {H : Type} : DataW H → Nat
  | .lit (.string bytes) => bytes.length + 1
  | .lit _ => 1
  | .nil => 1
  | .ptr d => uptoBulk d + 1
  | .slice elems spare => uptoBulkAll elems + uptoBulkAll spare + 1
  | .agg parts => uptoBulkAll parts + 1
  | .iface _ d => uptoBulk d + 1
  | .map entries => uptoBulkEntries entries + 1
  | .held _ => 1
def uptoBulkAll {H : Type} : List (DataW H) → Nat
  | [] => 0
  | d :: r => uptoBulk d + uptoBulkAll r
def uptoBulkEntries {H : Type} : List (Lit × DataW H) → Nat
  | [] => 0
  | x :: r => uptoBulkEntry x + uptoBulkEntries r
def uptoBulkEntry {H : Type} : Lit × DataW H → Nat
  | (.string bytes, d) => bytes.length + uptoBulk d + 1
  | (_, d) => uptoBulk d + 1
 end
def uptoSmall : (H : Type) → List (DataW H) → Bool := fun _ ds => decide (uptoBulkAll ds ≤ 1048576)
def OpenSpec.upto (s : _root_.Go.ChangeSpec) : _root_.Go.OpenSpec := { _root_.Go.OpenSpec.ofChange s with cond := some uptoSmall }

/-- 'cairnfieldlaw.SameBuilds', WHERE WHAT IT READS IS OF BULK AT MOST 1048576: true; the input reads as it did. -/
def sameBuildsUptoRow : OpenClaim := { program := "ytgnamdjmjkeodaa", sum := "3e2b743e03aaf30c58ec7318d517d50aadf880b00cb2e7fc14108bc9f4e42d70", func := "cairnfield/cairnfieldlaw.SameBuilds", spec := "sameBuilds", apart := false, narrowed := true }
def SameBuildsUptoSaid : Prop := sameBuildsUptoRow.holds Try.pinned (OpenSpec.upto sameBuildsSpec)

/-- 'cairnfieldlaw.PlanTells', WHERE WHAT IT READS IS OF BULK AT MOST 1048576: true; the input reads as it did. -/
def planTellsUptoRow : OpenClaim := { program := "ytgnamdjmjkeodaa", sum := "3e2b743e03aaf30c58ec7318d517d50aadf880b00cb2e7fc14108bc9f4e42d70", func := "cairnfield/cairnfieldlaw.PlanTells", spec := "planTells", unfollowed := true, recurses := true, apart := false, narrowed := true }
def PlanTellsUptoSaid : Prop := planTellsUptoRow.holds Try.pinned (OpenSpec.upto planTellsSpec)

/-- 'cairnfieldlaw.PinTells', WHERE WHAT IT READS IS OF BULK AT MOST 1048576: true; the input reads as it did. -/
def pinTellsUptoRow : OpenClaim := { program := "ytgnamdjmjkeodaa", sum := "3e2b743e03aaf30c58ec7318d517d50aadf880b00cb2e7fc14108bc9f4e42d70", func := "cairnfield/cairnfieldlaw.PinTells", spec := "pinTells", inPlace := ["slices.overlaps[cairnfield/api.Pin]"], unfollowed := true, recurses := true, apart := false, narrowed := true }
def PinTellsUptoSaid : Prop := pinTellsUptoRow.holds Try.pinned (OpenSpec.upto pinTellsSpec)

/-- 'cairnfieldlaw.GapTells', WHERE WHAT IT READS IS OF BULK AT MOST 1048576: true; the input reads as it did. -/
def gapTellsUptoRow : OpenClaim := { program := "ytgnamdjmjkeodaa", sum := "3e2b743e03aaf30c58ec7318d517d50aadf880b00cb2e7fc14108bc9f4e42d70", func := "cairnfield/cairnfieldlaw.GapTells", spec := "gapTells", unfollowed := true, recurses := true, apart := false, narrowed := true }
def GapTellsUptoSaid : Prop := gapTellsUptoRow.holds Try.pinned (OpenSpec.upto gapTellsSpec)

/-- 'cairnfieldlaw.SlideTells', WHERE WHAT IT READS IS OF BULK AT MOST 1048576: true; the input reads as it did. -/
def slideTellsUptoRow : OpenClaim := { program := "ytgnamdjmjkeodaa", sum := "3e2b743e03aaf30c58ec7318d517d50aadf880b00cb2e7fc14108bc9f4e42d70", func := "cairnfield/cairnfieldlaw.SlideTells", spec := "slideTells", unfollowed := true, recurses := true, apart := false, narrowed := true }
def SlideTellsUptoSaid : Prop := slideTellsUptoRow.holds Try.pinned (OpenSpec.upto slideTellsSpec)

/-- 'cairnfieldlaw.TwinTells', WHERE WHAT IT READS IS OF BULK AT MOST 1048576: true; the input reads as it did. -/
def twinTellsUptoRow : OpenClaim := { program := "ytgnamdjmjkeodaa", sum := "3e2b743e03aaf30c58ec7318d517d50aadf880b00cb2e7fc14108bc9f4e42d70", func := "cairnfield/cairnfieldlaw.TwinTells", spec := "twinTells", inPlace := ["slices.overlaps[cairnfield/api.Room]"], unfollowed := true, recurses := true, apart := false, narrowed := true }
def TwinTellsUptoSaid : Prop := twinTellsUptoRow.holds Try.pinned (OpenSpec.upto twinTellsSpec)

/-- 'cairnfieldlaw.YoungTells', WHERE WHAT IT READS IS OF BULK AT MOST 1048576: true; the input reads as it did. -/
def youngTellsUptoRow : OpenClaim := { program := "ytgnamdjmjkeodaa", sum := "3e2b743e03aaf30c58ec7318d517d50aadf880b00cb2e7fc14108bc9f4e42d70", func := "cairnfield/cairnfieldlaw.YoungTells", spec := "youngTells", inPlace := ["slices.overlaps[int]"], unfollowed := true, recurses := true, apart := false, narrowed := true }
def YoungTellsUptoSaid : Prop := youngTellsUptoRow.holds Try.pinned (OpenSpec.upto youngTellsSpec)

/-- 'cairnfieldlaw.RootTells', WHERE WHAT IT READS IS OF BULK AT MOST 1048576: true; the input reads as it did. -/
def rootTellsUptoRow : OpenClaim := { program := "ytgnamdjmjkeodaa", sum := "3e2b743e03aaf30c58ec7318d517d50aadf880b00cb2e7fc14108bc9f4e42d70", func := "cairnfield/cairnfieldlaw.RootTells", spec := "rootTells", unfollowed := true, recurses := true, apart := false, narrowed := true }
def RootTellsUptoSaid : Prop := rootTellsUptoRow.holds Try.pinned (OpenSpec.upto rootTellsSpec)

/-- 'cairnfieldlaw.FaintTells', WHERE WHAT IT READS IS OF BULK AT MOST 1048576: true; the input reads as it did. -/
def faintTellsUptoRow : OpenClaim := { program := "ytgnamdjmjkeodaa", sum := "3e2b743e03aaf30c58ec7318d517d50aadf880b00cb2e7fc14108bc9f4e42d70", func := "cairnfield/cairnfieldlaw.FaintTells", spec := "faintTells", unfollowed := true, recurses := true, apart := false, narrowed := true }
def FaintTellsUptoSaid : Prop := faintTellsUptoRow.holds Try.pinned (OpenSpec.upto faintTellsSpec)

/-- 'cairnfieldlaw.TallyTells', WHERE WHAT IT READS IS OF BULK AT MOST 1048576: true; the input reads as it did. -/
def tallyTellsUptoRow : OpenClaim := { program := "ytgnamdjmjkeodaa", sum := "3e2b743e03aaf30c58ec7318d517d50aadf880b00cb2e7fc14108bc9f4e42d70", func := "cairnfield/cairnfieldlaw.TallyTells", spec := "tallyTells", unfollowed := true, recurses := true, apart := false, narrowed := true }
def TallyTellsUptoSaid : Prop := tallyTellsUptoRow.holds Try.pinned (OpenSpec.upto tallyTellsSpec)

/-- 'cairnfieldlaw.FaintLast', WHERE WHAT IT READS IS OF BULK AT MOST 1048576: true; the input reads as it did. -/
def faintLastUptoRow : OpenClaim := { program := "ytgnamdjmjkeodaa", sum := "3e2b743e03aaf30c58ec7318d517d50aadf880b00cb2e7fc14108bc9f4e42d70", func := "cairnfield/cairnfieldlaw.FaintLast", spec := "faintLast", unfollowed := true, recurses := true, apart := false, narrowed := true }
def FaintLastUptoSaid : Prop := faintLastUptoRow.holds Try.pinned (OpenSpec.upto faintLastSpec)

/-- 'cairnfieldlaw.TintTells', WHERE WHAT IT READS IS OF BULK AT MOST 1048576: true; the input reads as it did. -/
def tintTellsUptoRow : OpenClaim := { program := "ytgnamdjmjkeodaa", sum := "3e2b743e03aaf30c58ec7318d517d50aadf880b00cb2e7fc14108bc9f4e42d70", func := "cairnfield/cairnfieldlaw.TintTells", spec := "tintTells", unfollowed := true, recurses := true, apart := false, narrowed := true }
def TintTellsUptoSaid : Prop := tintTellsUptoRow.holds Try.pinned (OpenSpec.upto tintTellsSpec)

end Rows
end Go.Proofs.Ytgnamdjmjkeodaa
