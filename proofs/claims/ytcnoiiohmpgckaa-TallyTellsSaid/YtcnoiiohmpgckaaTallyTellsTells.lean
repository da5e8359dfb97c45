
import Derived.Test.YtcnoiiohmpgckaaTallyLaw
import Derived.Test.YtcnoiiohmpgckaaTies
namespace Go.Proofs.Ytcnoiiohmpgckaa
open Go Go.ChangeShapes Go.WideShapes Go.ChangeAt Go.RowKit
set_option maxRecDepth 100000
set_option maxHeartbeats 1000000
theorem tallyTells_lifted (os:Os) (started:os.Started) (H:Type) (enc:TypeId×Value→H) :
  ReturnsInHanded {} Try.checked os 5 .any (Rows.tallyTellsSpec.pre6 enc Try.prog Try.f5 Rows.tallyTellsRow.domain false) (Rows.tallyTellsSpec.post enc Try.prog Try.f5 false true false false):=by
 refine returnsInHanded_of_change_sized (C:=Try.checked) (by kernel_rfl) started (by kernel_rfl) Try.func5
  (ChangeSpec.witness6 (enc:=enc) (C:=Try.checked) false ⟨#[],#[.slice none 0 0,.slice none 0 0,.int .i64 0],[]⟩ 8 (by kernel_rfl) (by kernel_rfl) (by kernel_rfl) (by kernel_rfl)) ?_
 intro W base args ds gs before hval hW _ hwt _
 refine o5 (P:=Try.prog) (fn:=Try.f5) (r:=Rows.tallyTellsSpec) (tb:=4) @jC (by kernel_rfl) (by kernel_rfl) (by kernel_rfl) (by kernel_rfl) Try.underlying4 rfl ?_ hval hW hwt (un rfl)
 intro ds hd
 have hd2:ds.length=3:=hd.trans (by kernel_rfl)
 match ds,hd2 with
 | [_,_,_],_=>rfl
theorem tallyTells_holds:Rows.TallyTellsSaid :=
 OpenClaim.holds_of_wide 5 Try.f5 rfl rfl rfl rfl rfl rfl rfl ⟨rfl,rfl,rfl,rfl,rfl⟩ rfl rfl rfl rfl rfl (by kernel_rfl) Try.func5 (by kernel_rfl)
  (of_decide_eq_true (by kernel_rfl)) (by unfold Func.isWrapper; first | (rw [if_pos (by decide +kernel)]; kernel_rfl) | (rw [if_neg (by decide +kernel)]; exact ⟨rfl,rfl⟩))
  (fun os started H enc _=>tallyTells_lifted os started H enc)
end Go.Proofs.Ytcnoiiohmpgckaa
