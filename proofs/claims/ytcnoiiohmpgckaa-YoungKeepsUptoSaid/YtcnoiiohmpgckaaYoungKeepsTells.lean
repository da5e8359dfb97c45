
import Derived.Test.YtcnoiiohmpgckaaYoungLaw
import Derived.Test.YtcnoiiohmpgckaaTies
import Derived.Deep.CondSized
namespace Go.Proofs.Ytcnoiiohmpgckaa
open Go Go.ChangeShapes Go.WideShapes Go.ChangeAt Go.RowKit
set_option maxRecDepth 100000
set_option maxHeartbeats 1000000
theorem youngKeeps_lifted (os:Os) (started:os.Started) (H:Type) (enc:TypeId×Value→H) (F:Stop.Interp) :
  ReturnsInHanded {} Try.checked os 8 .any ((Rows.OpenSpec.upto Rows.youngKeepsSpec).pre6 enc Try.prog Try.f8 Rows.youngKeepsUptoRow.domain false) (((Rows.OpenSpec.upto Rows.youngKeepsSpec).at F).post enc Try.prog Try.f8 false true false false):=by
 refine returnsInHanded_of_cond_sized (C:=Try.checked) (s:=Rows.OpenSpec.upto Rows.youngKeepsSpec) (k:=Rows.uptoSmall) rfl (by kernel_rfl) started (by kernel_rfl) Try.func8
  (OpenSpec.witness (enc:=enc) (C:=Try.checked) (s:=Rows.OpenSpec.upto Rows.youngKeepsSpec) (k:=Rows.uptoSmall) rfl false ⟨#[],#[.agg #[.slice none 0 0,.slice none 0 0,.slice none 0 0],.slice none 0 0],[]⟩ 8 (by kernel_rfl) (by kernel_rfl) (by kernel_rfl)
   (x:=([.agg [.nil,.nil,.nil],.nil],[],[])) (by kernel_rfl) rfl (by kernel_rfl)) ?_
 intro W base args ds gs before hval hW _ hk hwt _
 refine nU (P:=Try.prog) (fn:=Try.f8) (r:=Rows.youngKeepsSpec) (tb:=4) @kg (by kernel_rfl) (by kernel_rfl) (by kernel_rfl) (by kernel_rfl) Try.underlying4 rfl ?_ hval hW hwt hk (wb rfl)
 intro ds hd
 have hd2:ds.length=2:=hd.trans (by kernel_rfl)
 match ds,hd2 with
 | [_,_],_=>rfl
theorem youngKeeps_holds:Rows.YoungKeepsUptoSaid :=
 OpenClaim.holds_of_cond 8 Try.f8 rfl rfl rfl rfl rfl rfl rfl ⟨rfl,rfl,rfl,rfl,rfl⟩ rfl rfl rfl rfl rfl (by kernel_rfl) Try.func8 (by kernel_rfl)
  (of_decide_eq_true (by kernel_rfl)) (by unfold Func.isWrapper; first | (rw [if_pos (by decide +kernel)]; kernel_rfl) | (rw [if_neg (by decide +kernel)]; exact ⟨rfl,rfl⟩))
  (fun os started H enc _ F=>youngKeeps_lifted os started H enc F)
end Go.Proofs.Ytcnoiiohmpgckaa
