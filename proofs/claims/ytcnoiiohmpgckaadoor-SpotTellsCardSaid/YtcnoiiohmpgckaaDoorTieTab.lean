
import Derived.Test.YtcnoiiohmpgckaaDoorTies
import Derived.Test.YtcnoiiohmpgckaaDoorTie
import Derived.Test.YtcnoiiohmpgckaaDoorCards
import Derived.LaidMore
import Derived.OpenShut
import Derived.Lib.LaidTab
namespace Go.Proofs.YtcnoiiohmpgckaaDoor
open Go Go.ChangeShapes Go.WideShapes Go.ChangeAt Go.RowKit
abbrev oB : List (String × DataW Unit) := [("math/bits.deBruijn64tab", Rows.laid_math_bits_deBruijn64tab)]
theorem qy (os:Os) (args:Array Value):laidMetH Tryd.prog oB ((World.doorLaid Tryd.prog 400 os).forCall (fun _ _=>0) ⟨#[],args,[]⟩).memory :=
 laidMetH_of_parts3 (fuel:=8) (laidMet_of_run' 8 (by kernel_rfl) (by kernel_rfl)) (by kernel_rfl) (by kernel_rfl)
def tabZ:List Int:=[0,1,56,2,57,49,28,3,61,58,42,50,38,29,17,4,62,47,59,36,45,43,51,22,53,39,33,30,24,18,12,5,63,55,48,27,60,41,37,16,46,35,44,21,52,32,23,11,54,26,40,15,34,20,31,10,25,14,19,9,13,8,7,6]
theorem qJ:∀ t∈tabs,t.1=0∧t.2.1<64∧t.2.2=.int .u8 (tabZ.getD t.2.1 0):=by
 intro t ht
 obtain ⟨x,hx,rfl⟩:=List.mem_map.1 ht
 have hall:((List.zip (List.range 64) tabZ).all fun x=>decide (x.1<64∧tabZ.getD x.1 0=x.2))=true:=by decide +kernel
 have:=of_decide_eq_true (List.all_eq_true.1 hall x hx)
 exact ⟨rfl,this.1,by simp only; rw [this.2]⟩
theorem qX {W:World} (h:laidMetH Tryd.prog oB W):Laid W:=by
 rw [MakeChecks.laidMetH_plain _ _ _ (by kernel_rfl)] at h
 have hg : Tryd.prog.globalNamed "math/bits.deBruijn64tab" = some 0 := by kernel_rfl
 have hT : Lib.TabIs Tryd.prog W "math/bits.deBruijn64tab" .u8 tabZ := Lib.tabIs_of_head (rest := []) hg (t := 51) (by kernel_rfl) Tryd.underlying51 Tryd.underlying5 (by kernel_rfl) (by kernel_rfl) h
 intro t ht
 obtain ⟨e0,hi,e2⟩:=qJ t ht
 rw [e0,e2]
 exact hT.cell hg t.2.1 hi
end Go.Proofs.YtcnoiiohmpgckaaDoor
