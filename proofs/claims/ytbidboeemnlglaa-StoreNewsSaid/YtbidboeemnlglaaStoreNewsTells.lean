/- The law StoreNews, as the given row says it. -/
import Derived.Test.YtbidboeemnlglaaNews
import Derived.Test.YtbidboeemnlglaaTie
namespace Go.Proofs.Ytbidboeemnlglaa
open Go Go.ChangeShapes Go.WideShapes Go.ChangeAt Go.RowKit
set_option maxRecDepth 100000
set_option maxHeartbeats 1000000
theorem storeNews_lifted (os : Os) (started : os.Started) (H : Type) (enc : TypeId × Value → H) :
    ReturnsInHanded {} Try.checked os 9 .any (Rows.storeNewsSpec.pre6 enc Try.prog Try.f9 Rows.storeNewsRow.domain false) (Rows.storeNewsSpec.post enc Try.prog Try.f9 false true false false) := by
  refine returnsInHanded_of_change_sized (C := Try.checked) (by kernel_rfl) started (by kernel_rfl) Try.func9
    (ChangeSpec.witness6 (enc := enc) (C := Try.checked) false ⟨#[], #[.int .i64 0, .int .i64 0, .int .i64 0, .agg #[.slice none 0 0, .slice none 0 0, .slice none 0 0, .slice none 0 0]], []⟩ 8 (by kernel_rfl) (by kernel_rfl) (by kernel_rfl) (by kernel_rfl)) ?_
  intro W base args ds gs before hval hW _ hwt _
  refine law_contract (P := Try.prog) (fn := Try.f9) (r := Rows.storeNewsSpec) (tb := 4) @ok_lawStoreNews (by kernel_rfl) (by kernel_rfl) (by kernel_rfl) (by kernel_rfl) Try.underlying4 rfl ?_ hval hW hwt
  intro ds hd
  have hd2 : ds.length = 4 := hd.trans (by kernel_rfl)
  match ds, hd2 with
  | [_, _, _, _], _ => rfl
theorem storeNews_holds : Rows.StoreNewsSaid :=
  still_leaving (by kernel_rfl) rfl rfl (by kernel_rfl) <|
  OpenClaim.holds_of_wide 9 Try.f9 rfl rfl rfl rfl rfl rfl rfl ⟨rfl, rfl, rfl, rfl, rfl⟩ rfl rfl rfl rfl rfl (by kernel_rfl) Try.func9 (by kernel_rfl)
    (of_decide_eq_true (by kernel_rfl)) (by unfold Func.isWrapper; first | (rw [if_pos (by decide +kernel)]; kernel_rfl) | (rw [if_neg (by decide +kernel)]; exact ⟨rfl, rfl⟩))
    (fun os started H enc _ => storeNews_lifted os started H enc)
end Go.Proofs.Ytbidboeemnlglaa
