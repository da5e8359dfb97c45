/-
  No cell of these rows narrows 'for every input' (looked for: loops, veiled, ifaces, maps, wideKeys, modest, calm, conditions, laid).
  DERIVED. THE GIVEN ROWS OF THIS SEAT. 9 by the template 'for every input the law returns true; each argument reads behind the call as it read before'; 0 by the template 'total and deterministic' (their statements: YtjkmfgneonifeaaTotals.lean).
  GIVEN WITH THE SEED: the statements are not yours to turn. If you find one false, say at which input.
  Laid BY PROGRAM, IN A SANDBOX (cutbox-rows.mjs): the forced cells as the released guide's own fill.sh prints them over the translation f0170124d601d452… (all of the seat's roots in one cut). By AI agents, Wed Nov 11 2026. No macro, syntax, notation, axiom, sorry.
-/
import Derived.Test.YtjkmfgneonifeaaChecked
import GoSem.Claim
import GoSem.ClaimJoined
import GoSem.ClaimMapViews
import Derived.JoinedTies
import Derived.KernelRfl
namespace Go.Proofs.Ytjkmfgneonifeaa
/- THE CELL 'sum', in the pinned program and in every row, IS THE sha256 OF THE DUMP (.gsa) THAT YtjkmfgneonifeaaProg.lean LOADS. Nothing in Lean hashes anything: it is a label: what it is worth is what the hold of that sum in a sandbox is worth. -/
noncomputable def Try.pinned : Pinned := { name := "ytjkmfgneonifeaa", sum := "f0170124d601d4526616a99d54bd70c548c3bac5ebf34d23682c195f258ceb7f", checked := Try.checked }
namespace Rows
def none {H : Type} : Left H := { results := [], args := [] }

/-- 'cairnfieldlaw.Names': WHATEVER THE INPUT: true; the input reads as it did. -/
def namesSpec : ChangeSpec := { name := "names", fn := fun _ => fun
  | [] => { results := [.lit (.bool true)], args := [] }
  | _ => none }
def namesRow : OpenClaim := { program := "ytjkmfgneonifeaa", sum := "f0170124d601d4526616a99d54bd70c548c3bac5ebf34d23682c195f258ceb7f", func := "cairnfield/cairnfieldlaw.Names", spec := "names", apart := false }
def NamesSaid : Prop := namesRow.holds Try.pinned (OpenSpec.ofChange namesSpec)

/-- ITS FALSE NEIGHBOUR: 'it returns false'. Refute it at one input. -/
def namesWrong : ChangeSpec := { name := "names", fn := fun _ => fun
  | [] => { results := [.lit (.bool false)], args := [] }
  | _ => none }
def NamesWrongFalsely : Prop := namesRow.holds Try.pinned (OpenSpec.ofChange namesWrong)

/-- 'cairnfieldlaw.HeadTells': WHATEVER THE INPUT: true; the input reads as it did. -/
def headTellsSpec : ChangeSpec := { name := "headTells", fn := fun _ => fun
  | [d1, d2] => { results := [.lit (.bool true)], args := [d1, d2] }
  | _ => none }
def headTellsRow : OpenClaim := { program := "ytjkmfgneonifeaa", sum := "f0170124d601d4526616a99d54bd70c548c3bac5ebf34d23682c195f258ceb7f", func := "cairnfield/cairnfieldlaw.HeadTells", spec := "headTells", apart := false }
def HeadTellsSaid : Prop := headTellsRow.holds Try.pinned (OpenSpec.ofChange headTellsSpec)

/-- ITS FALSE NEIGHBOUR: 'it returns false'. Refute it at one input. -/
def headTellsWrong : ChangeSpec := { name := "headTells", fn := fun _ => fun
  | [d1, d2] => { results := [.lit (.bool false)], args := [d1, d2] }
  | _ => none }
def HeadTellsWrongFalsely : Prop := headTellsRow.holds Try.pinned (OpenSpec.ofChange headTellsWrong)

/-- 'cairnfieldlaw.WordBytes': WHATEVER THE INPUT: true; the input reads as it did. -/
def wordBytesSpec : ChangeSpec := { name := "wordBytes", fn := fun _ => fun
  | [d1, d2] => { results := [.lit (.bool true)], args := [d1, d2] }
  | _ => none }
def wordBytesRow : OpenClaim := { program := "ytjkmfgneonifeaa", sum := "f0170124d601d4526616a99d54bd70c548c3bac5ebf34d23682c195f258ceb7f", func := "cairnfield/cairnfieldlaw.WordBytes", spec := "wordBytes", apart := false }
def WordBytesSaid : Prop := wordBytesRow.holds Try.pinned (OpenSpec.ofChange wordBytesSpec)

/-- ITS FALSE NEIGHBOUR: 'it returns false'. Refute it at one input. -/
def wordBytesWrong : ChangeSpec := { name := "wordBytes", fn := fun _ => fun
  | [d1, d2] => { results := [.lit (.bool false)], args := [d1, d2] }
  | _ => none }
def WordBytesWrongFalsely : Prop := wordBytesRow.holds Try.pinned (OpenSpec.ofChange wordBytesWrong)

/-- 'cairnfieldlaw.GapFits': WHATEVER THE INPUT: true; the input reads as it did. -/
def gapFitsSpec : ChangeSpec := { name := "gapFits", fn := fun _ => fun
  | [d1, d2] => { results := [.lit (.bool true)], args := [d1, d2] }
  | _ => none }
def gapFitsRow : OpenClaim := { program := "ytjkmfgneonifeaa", sum := "f0170124d601d4526616a99d54bd70c548c3bac5ebf34d23682c195f258ceb7f", func := "cairnfield/cairnfieldlaw.GapFits", spec := "gapFits", apart := false }
def GapFitsSaid : Prop := gapFitsRow.holds Try.pinned (OpenSpec.ofChange gapFitsSpec)

/-- ITS FALSE NEIGHBOUR: 'it returns false'. Refute it at one input. -/
def gapFitsWrong : ChangeSpec := { name := "gapFits", fn := fun _ => fun
  | [d1, d2] => { results := [.lit (.bool false)], args := [d1, d2] }
  | _ => none }
def GapFitsWrongFalsely : Prop := gapFitsRow.holds Try.pinned (OpenSpec.ofChange gapFitsWrong)

/-- 'cairnfieldlaw.TapeOps': WHATEVER THE INPUT: true; the input reads as it did. -/
def tapeOpsSpec : ChangeSpec := { name := "tapeOps", fn := fun _ => fun
  | [d1, d2] => { results := [.lit (.bool true)], args := [d1, d2] }
  | _ => none }
def tapeOpsRow : OpenClaim := { program := "ytjkmfgneonifeaa", sum := "f0170124d601d4526616a99d54bd70c548c3bac5ebf34d23682c195f258ceb7f", func := "cairnfield/cairnfieldlaw.TapeOps", spec := "tapeOps", recurses := true, apart := false }
def TapeOpsSaid : Prop := tapeOpsRow.holds Try.pinned (OpenSpec.ofChange tapeOpsSpec)

/-- ITS FALSE NEIGHBOUR: 'it returns false'. Refute it at one input. -/
def tapeOpsWrong : ChangeSpec := { name := "tapeOps", fn := fun _ => fun
  | [d1, d2] => { results := [.lit (.bool false)], args := [d1, d2] }
  | _ => none }
def TapeOpsWrongFalsely : Prop := tapeOpsRow.holds Try.pinned (OpenSpec.ofChange tapeOpsWrong)

/-- 'cairnfieldlaw.WordTells': WHATEVER THE INPUT: true; the input reads as it did. -/
def wordTellsSpec : ChangeSpec := { name := "wordTells", fn := fun _ => fun
  | [d1, d2, d3, d4, d5] => { results := [.lit (.bool true)], args := [d1, d2, d3, d4, d5] }
  | _ => none }
def wordTellsRow : OpenClaim := { program := "ytjkmfgneonifeaa", sum := "f0170124d601d4526616a99d54bd70c548c3bac5ebf34d23682c195f258ceb7f", func := "cairnfield/cairnfieldlaw.WordTells", spec := "wordTells", apart := false }
def WordTellsSaid : Prop := wordTellsRow.holds Try.pinned (OpenSpec.ofChange wordTellsSpec)

/-- ITS FALSE NEIGHBOUR: 'it returns false'. Refute it at one input. -/
def wordTellsWrong : ChangeSpec := { name := "wordTells", fn := fun _ => fun
  | [d1, d2, d3, d4, d5] => { results := [.lit (.bool false)], args := [d1, d2, d3, d4, d5] }
  | _ => none }
def WordTellsWrongFalsely : Prop := wordTellsRow.holds Try.pinned (OpenSpec.ofChange wordTellsWrong)

/-- 'cairnfieldlaw.WalkLays': WHATEVER THE INPUT: true; the input reads as it did. -/
def walkLaysSpec : ChangeSpec := { name := "walkLays", fn := fun _ => fun
  | [d1, d2] => { results := [.lit (.bool true)], args := [d1, d2] }
  | _ => none }
def walkLaysRow : OpenClaim := { program := "ytjkmfgneonifeaa", sum := "f0170124d601d4526616a99d54bd70c548c3bac5ebf34d23682c195f258ceb7f", func := "cairnfield/cairnfieldlaw.WalkLays", spec := "walkLays", apart := false }
def WalkLaysSaid : Prop := walkLaysRow.holds Try.pinned (OpenSpec.ofChange walkLaysSpec)

/-- ITS FALSE NEIGHBOUR: 'it returns false'. Refute it at one input. -/
def walkLaysWrong : ChangeSpec := { name := "walkLays", fn := fun _ => fun
  | [d1, d2] => { results := [.lit (.bool false)], args := [d1, d2] }
  | _ => none }
def WalkLaysWrongFalsely : Prop := walkLaysRow.holds Try.pinned (OpenSpec.ofChange walkLaysWrong)

/-- 'cairnfieldlaw.HandTells': WHATEVER THE INPUT: true; the input reads as it did. -/
def handTellsSpec : ChangeSpec := { name := "handTells", fn := fun _ => fun
  | [d1, d2, d3, d4, d5] => { results := [.lit (.bool true)], args := [d1, d2, d3, d4, d5] }
  | _ => none }
def handTellsRow : OpenClaim := { program := "ytjkmfgneonifeaa", sum := "f0170124d601d4526616a99d54bd70c548c3bac5ebf34d23682c195f258ceb7f", func := "cairnfield/cairnfieldlaw.HandTells", spec := "handTells", unfollowed := true, recurses := true, apart := false }
def HandTellsSaid : Prop := handTellsRow.holds Try.pinned (OpenSpec.ofChange handTellsSpec)

/-- ITS FALSE NEIGHBOUR: 'it returns false'. Refute it at one input. -/
def handTellsWrong : ChangeSpec := { name := "handTells", fn := fun _ => fun
  | [d1, d2, d3, d4, d5] => { results := [.lit (.bool false)], args := [d1, d2, d3, d4, d5] }
  | _ => none }
def HandTellsWrongFalsely : Prop := handTellsRow.holds Try.pinned (OpenSpec.ofChange handTellsWrong)

/-- 'cairnfieldlaw.WalkTells': WHATEVER THE INPUT: true; the input reads as it did. -/
def walkTellsSpec : ChangeSpec := { name := "walkTells", fn := fun _ => fun
  | [d1, d2] => { results := [.lit (.bool true)], args := [d1, d2] }
  | _ => none }
def walkTellsRow : OpenClaim := { program := "ytjkmfgneonifeaa", sum := "f0170124d601d4526616a99d54bd70c548c3bac5ebf34d23682c195f258ceb7f", func := "cairnfield/cairnfieldlaw.WalkTells", spec := "walkTells", unfollowed := true, recurses := true, apart := false }
def WalkTellsSaid : Prop := walkTellsRow.holds Try.pinned (OpenSpec.ofChange walkTellsSpec)

/-- ITS FALSE NEIGHBOUR: 'it returns false'. Refute it at one input. -/
def walkTellsWrong : ChangeSpec := { name := "walkTells", fn := fun _ => fun
  | [d1, d2] => { results := [.lit (.bool false)], args := [d1, d2] }
  | _ => none }
def WalkTellsWrongFalsely : Prop := walkTellsRow.holds Try.pinned (OpenSpec.ofChange walkTellsWrong)

/- THE SECOND FORM. 'bulk': how many values and letters a reading holds, each counted each time it is reached (what is shared counts as often as it is met; a slice's spare places count too). A statement '..UptoSaid' is the law's where the arguments, and the package variables that the reading takes, are together of bulk at most 1048576: NARROWER than '..Said'. Prove '..Said' where nothing that the law and all that it calls make is longer than what came in: it says more and counts as full. Else prove '..UptoSaid'. A law counts once. -/
mutual
def uptoBulk {H : Type} : DataW H → Nat
  | .lit (.string bytes) => bytes.length + 1
  | .lit _ => 1
  | .nil => 1
  | .ptr d => uptoBulk d + 1
  | .slice elems spare => uptoBulkAll elems + uptoBulkAll spare + 1
  | .agg parts => uptoBulkAll parts + 1
  | .iface _ d => uptoBulk d + 1
  | .map entries => uptoBulkEntries entries + 1
  | .held _ => 1
def uptoBulkAll {H : Type} : List (DataW H) → Nat
  | [] => 0
  | d :: r => uptoBulk d + uptoBulkAll r
def uptoBulkEntries {H : Type} : List (Lit × DataW H) → Nat
  | [] => 0
  | x :: r => uptoBulkEntry x + uptoBulkEntries r
def uptoBulkEntry {H : Type} : Lit × DataW H → Nat
  | (.string bytes, d) => bytes.length + uptoBulk d + 1
  | (_, d) => uptoBulk d + 1
 end
def uptoSmall : (H : Type) → List (DataW H) → Bool := fun _ ds => decide (uptoBulkAll ds ≤ 1048576)
def OpenSpec.upto (s : _root_.Go.ChangeSpec) : _root_.Go.OpenSpec := { _root_.Go.OpenSpec.ofChange s with cond := some uptoSmall }

/-- 'cairnfieldlaw.Names', WHERE WHAT IT READS IS OF BULK AT MOST 1048576: true; the input reads as it did. -/
def namesUptoRow : OpenClaim := { program := "ytjkmfgneonifeaa", sum := "f0170124d601d4526616a99d54bd70c548c3bac5ebf34d23682c195f258ceb7f", func := "cairnfield/cairnfieldlaw.Names", spec := "names", apart := false, narrowed := true }
def NamesUptoSaid : Prop := namesUptoRow.holds Try.pinned (OpenSpec.upto namesSpec)

/-- 'cairnfieldlaw.HeadTells', WHERE WHAT IT READS IS OF BULK AT MOST 1048576: true; the input reads as it did. -/
def headTellsUptoRow : OpenClaim := { program := "ytjkmfgneonifeaa", sum := "f0170124d601d4526616a99d54bd70c548c3bac5ebf34d23682c195f258ceb7f", func := "cairnfield/cairnfieldlaw.HeadTells", spec := "headTells", apart := false, narrowed := true }
def HeadTellsUptoSaid : Prop := headTellsUptoRow.holds Try.pinned (OpenSpec.upto headTellsSpec)

/-- 'cairnfieldlaw.WordBytes', WHERE WHAT IT READS IS OF BULK AT MOST 1048576: true; the input reads as it did. -/
def wordBytesUptoRow : OpenClaim := { program := "ytjkmfgneonifeaa", sum := "f0170124d601d4526616a99d54bd70c548c3bac5ebf34d23682c195f258ceb7f", func := "cairnfield/cairnfieldlaw.WordBytes", spec := "wordBytes", apart := false, narrowed := true }
def WordBytesUptoSaid : Prop := wordBytesUptoRow.holds Try.pinned (OpenSpec.upto wordBytesSpec)

/-- 'cairnfieldlaw.GapFits', WHERE WHAT IT READS IS OF BULK AT MOST 1048576: true; the input reads as it did. -/
def gapFitsUptoRow : OpenClaim := { program := "ytjkmfgneonifeaa", sum := "f0170124d601d4526616a99d54bd70c548c3bac5ebf34d23682c195f258ceb7f", func := "cairnfield/cairnfieldlaw.GapFits", spec := "gapFits", apart := false, narrowed := true }
def GapFitsUptoSaid : Prop := gapFitsUptoRow.holds Try.pinned (OpenSpec.upto gapFitsSpec)

/-- 'cairnfieldlaw.TapeOps', WHERE WHAT IT READS IS OF BULK AT MOST 1048576: true; the input reads as it did. -/
def tapeOpsUptoRow : OpenClaim := { program := "ytjkmfgneonifeaa", sum := "f0170124d601d4526616a99d54bd70c548c3bac5ebf34d23682c195f258ceb7f", func := "cairnfield/cairnfieldlaw.TapeOps", spec := "tapeOps", recurses := true, apart := false, narrowed := true }
def TapeOpsUptoSaid : Prop := tapeOpsUptoRow.holds Try.pinned (OpenSpec.upto tapeOpsSpec)

/-- 'cairnfieldlaw.WordTells', WHERE WHAT IT READS IS OF BULK AT MOST 1048576: true; the input reads as it did. -/
def wordTellsUptoRow : OpenClaim := { program := "ytjkmfgneonifeaa", sum := "f0170124d601d4526616a99d54bd70c548c3bac5ebf34d23682c195f258ceb7f", func := "cairnfield/cairnfieldlaw.WordTells", spec := "wordTells", apart := false, narrowed := true }
def WordTellsUptoSaid : Prop := wordTellsUptoRow.holds Try.pinned (OpenSpec.upto wordTellsSpec)

/-- 'cairnfieldlaw.WalkLays', WHERE WHAT IT READS IS OF BULK AT MOST 1048576: true; the input reads as it did. -/
def walkLaysUptoRow : OpenClaim := { program := "ytjkmfgneonifeaa", sum := "f0170124d601d4526616a99d54bd70c548c3bac5ebf34d23682c195f258ceb7f", func := "cairnfield/cairnfieldlaw.WalkLays", spec := "walkLays", apart := false, narrowed := true }
def WalkLaysUptoSaid : Prop := walkLaysUptoRow.holds Try.pinned (OpenSpec.upto walkLaysSpec)

/-- 'cairnfieldlaw.HandTells', WHERE WHAT IT READS IS OF BULK AT MOST 1048576: true; the input reads as it did. -/
def handTellsUptoRow : OpenClaim := { program := "ytjkmfgneonifeaa", sum := "f0170124d601d4526616a99d54bd70c548c3bac5ebf34d23682c195f258ceb7f", func := "cairnfield/cairnfieldlaw.HandTells", spec := "handTells", unfollowed := true, recurses := true, apart := false, narrowed := true }
def HandTellsUptoSaid : Prop := handTellsUptoRow.holds Try.pinned (OpenSpec.upto handTellsSpec)

/-- 'cairnfieldlaw.WalkTells', WHERE WHAT IT READS IS OF BULK AT MOST 1048576: true; the input reads as it did. -/
def walkTellsUptoRow : OpenClaim := { program := "ytjkmfgneonifeaa", sum := "f0170124d601d4526616a99d54bd70c548c3bac5ebf34d23682c195f258ceb7f", func := "cairnfield/cairnfieldlaw.WalkTells", spec := "walkTells", unfollowed := true, recurses := true, apart := false, narrowed := true }
def WalkTellsUptoSaid : Prop := walkTellsUptoRow.holds Try.pinned (OpenSpec.upto walkTellsSpec)

end Rows
end Go.Proofs.Ytjkmfgneonifeaa
