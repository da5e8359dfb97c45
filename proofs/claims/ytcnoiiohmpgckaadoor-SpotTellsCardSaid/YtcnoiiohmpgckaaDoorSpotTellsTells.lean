
import Derived.Test.YtcnoiiohmpgckaaDoorSpots
import Derived.Test.YtcnoiiohmpgckaaDoorTieTab
import Derived.Test.YtcnoiiohmpgckaaDoorTies
import Derived.Test.YtcnoiiohmpgckaaDoorCards
import Derived.Test.YtcnoiiohmpgckaaDoorTie
namespace Go.Proofs.YtcnoiiohmpgckaaDoor
open Go Go.ChangeShapes Go.WideShapes Go.ChangeAt Go.RowKit
set_option maxRecDepth 100000
set_option maxHeartbeats 1000000
theorem spotTells_lifted (os:Os) (started:os.Started) (H:Type) (enc:TypeId×Value→H) :
  ReturnsInHanded {} Tryd.checked os 3 .any (fun w args=>(Rows.spotTellsSpec.pre enc Tryd.prog Tryd.f3 Rows.spotTellsRow.domain false w args∧laidMetH Tryd.prog Rows.spotTellsRow.laid w)∧sizedMet enc Tryd.prog Tryd.f3 (OpenSpec.ofChange Rows.spotTellsSpec) false w args) (Rows.spotTellsSpec.post enc Tryd.prog Tryd.f3 false true false false):=by
 refine returnsInHanded_of_change_and (C:=Tryd.checked) (X:=fun w _=>laidMetH Tryd.prog Rows.spotTellsRow.laid w) (fun _ _ _ hh h=>h.of_heap hh) (by kernel_rfl) started (by kernel_rfl) Tryd.func3
  (ChangeSpec.witness_shaped (enc:=enc) (C:=Tryd.checked) (os:=os) (X:=fun w _=>laidMetH Tryd.prog Rows.spotTellsRow.laid w) false (World.doorLaid Tryd.prog 400 os) #[.slice none 0 0,.int .i64 0,.int .i64 0,.int .i64 0,.bool false] 8 rfl (World.shaped_of_RefB (by kernel_rfl) (by kernel_rfl)) (by kernel_rfl) (by kernel_rfl) (by kernel_rfl) (qy os _)) ?_
 intro W base args ds gs before hval hW _ hwt hL _
 refine lA (P:=Tryd.prog) (fn:=Tryd.f3) (r:=Rows.spotTellsSpec) (tb:=4) @ip (by kernel_rfl) (by kernel_rfl) (by kernel_rfl) (by kernel_rfl) Tryd.underlying4 rfl ?_ hval hW hwt (qX hL)
 intro ds hd
 have hd2:ds.length=5:=hd.trans (by kernel_rfl)
 match ds,hd2 with
 | [_,_,_,_,_],_=>rfl
theorem spotTells_row:Rows.SpotTellsSaid :=
 OpenClaim.holds_of_wide 3 Tryd.f3 rfl rfl rfl rfl rfl rfl rfl ⟨rfl,rfl,rfl,rfl,rfl⟩ rfl rfl rfl rfl rfl (by kernel_rfl) Tryd.func3 (by kernel_rfl)
  (of_decide_eq_true (by kernel_rfl)) (by unfold Func.isWrapper; first | (rw [if_pos (by decide +kernel)]; kernel_rfl) | (rw [if_neg (by decide +kernel)]; exact ⟨rfl,rfl⟩))
  (fun os started H enc _=>spotTells_lifted os started H enc)
theorem spotTells_holds:Rows.SpotTellsCardSaid :=
 Claim7.holds_tied_plain_at .later [] [.data] true (true, "38c30e1ada151478b137cf944369e1e29ed72afc5df6d45d8952a76b5ec539fe") false
  spotTells_row (fun _ h=>by cases h) (by kernel_rfl) (fun _ h=>by cases h) spotTells_row_tie rfl ⟨rfl,rfl⟩ (by kernel_rfl) rfl
  (fun f fn hf hfn=>by
   obtain rfl:f=3:=Option.some.inj ((show Tryd.prog.funcNamed Rows.spotTellsRow.func=some 3 by kernel_rfl).symm.trans hf) |>.symm
   obtain rfl:fn=Tryd.f3:=(Option.some.inj (Tryd.func3.symm.trans hfn)).symm
   exact ⟨by kernel_rfl,fun j t ht=>by
    have hm:t∈Tryd.f3.params:=Array.mem_of_getElem? ht
    have hall:(Tryd.f3.params.toList.all fun u=>!Tryd.prog.wantsStandIn u)=true:=by kernel_rfl
    exact (show Tryd.prog.wantsStandIn t=false by simpa using List.all_eq_true.1 hall t (by simpa using hm))⟩)
  (by kernel_rfl)
end Go.Proofs.YtcnoiiohmpgckaaDoor
