
import Derived.Test.YtcnoiiohmpgckaaTintLaw
import Derived.Test.YtcnoiiohmpgckaaTies
namespace Go.Proofs.Ytcnoiiohmpgckaa
open Go Go.ChangeShapes Go.WideShapes Go.ChangeAt Go.RowKit
set_option maxRecDepth 100000
set_option maxHeartbeats 1000000
theorem tintTells_lifted (os:Os) (started:os.Started) (H:Type) (enc:TypeId×Value→H) :
  ReturnsInHanded {} Try.checked os 6 .any (Rows.tintTellsSpec.pre6 enc Try.prog Try.f6 Rows.tintTellsRow.domain false) (Rows.tintTellsSpec.post enc Try.prog Try.f6 false true false false):=by
 refine returnsInHanded_of_change_sized (C:=Try.checked) (by kernel_rfl) started (by kernel_rfl) Try.func6
  (ChangeSpec.witness6 (enc:=enc) (C:=Try.checked) false ⟨#[],#[.slice none 0 0,.slice none 0 0,.int .i64 0],[]⟩ 8 (by kernel_rfl) (by kernel_rfl) (by kernel_rfl) (by kernel_rfl)) ?_
 intro W base args ds gs before hval hW _ hwt _
 refine p9 (P:=Try.prog) (fn:=Try.f6) (r:=Rows.tintTellsSpec) (tb:=4) @ll (by kernel_rfl) (by kernel_rfl) (by kernel_rfl) (by kernel_rfl) Try.underlying4 rfl ?_ hval hW hwt (wh rfl)
 intro ds hd
 have hd2:ds.length=3:=hd.trans (by kernel_rfl)
 match ds,hd2 with
 | [_,_,_],_=>rfl
theorem tintTells_holds:Rows.TintTellsSaid :=
 OpenClaim.holds_of_wide 6 Try.f6 rfl rfl rfl rfl rfl rfl rfl ⟨rfl,rfl,rfl,rfl,rfl⟩ rfl rfl rfl rfl rfl (by kernel_rfl) Try.func6 (by kernel_rfl)
  (of_decide_eq_true (by kernel_rfl)) (by unfold Func.isWrapper; first | (rw [if_pos (by decide +kernel)]; kernel_rfl) | (rw [if_neg (by decide +kernel)]; exact ⟨rfl,rfl⟩))
  (fun os started H enc _=>tintTells_lifted os started H enc)
end Go.Proofs.Ytcnoiiohmpgckaa
