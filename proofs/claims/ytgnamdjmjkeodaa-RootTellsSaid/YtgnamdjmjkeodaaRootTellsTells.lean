/- The law RootTells, as the given row says it. -/
import Derived.Test.YtgnamdjmjkeodaaRootLaw
import Derived.Test.YtgnamdjmjkeodaaTie
namespace Go.Proofs.Ytgnamdjmjkeodaa
open Go Go.ChangeShapes Go.WideShapes Go.ChangeAt Go.RowKit
set_option maxRecDepth 100000
set_option maxHeartbeats 1000000
theorem rootTells_lifted (os : Os) (started : os.Started) (H : Type) (enc : TypeId × Value → H) :
    ReturnsInHanded {} Try.checked os 10 .any (Rows.rootTellsSpec.pre6 enc Try.prog Try.f10 Rows.rootTellsRow.domain false) (Rows.rootTellsSpec.post enc Try.prog Try.f10 false true false false) := by
  refine returnsInHanded_of_change_sized (C := Try.checked) (by kernel_rfl) started (by kernel_rfl) Try.func10
    (ChangeSpec.witness6 (enc := enc) (C := Try.checked) false ⟨#[], #[.slice none 0 0, .int .i64 0, .int .i64 0, .int .i64 0, .slice none 0 0], []⟩ 8 (by kernel_rfl) (by kernel_rfl) (by kernel_rfl) (by kernel_rfl)) ?_
  intro W base args ds gs before hval hW _ hwt _
  refine law_contract (P := Try.prog) (fn := Try.f10) (r := Rows.rootTellsSpec) (tb := 4) @ok_lawRootTells (by kernel_rfl) (by kernel_rfl) (by kernel_rfl) (by kernel_rfl) Try.underlying4 rfl ?_ hval hW hwt
  intro ds hd
  have hd2 : ds.length = 5 := hd.trans (by kernel_rfl)
  match ds, hd2 with
  | [_, _, _, _, _], _ => rfl
theorem rootTells_holds : Rows.RootTellsSaid :=
  OpenClaim.holds_of_wide 10 Try.f10 rfl rfl rfl rfl rfl rfl rfl ⟨rfl, rfl, rfl, rfl, rfl⟩ rfl rfl rfl rfl rfl (by kernel_rfl) Try.func10 (by kernel_rfl)
    (of_decide_eq_true (by kernel_rfl)) (by unfold Func.isWrapper; first | (rw [if_pos (by decide +kernel)]; kernel_rfl) | (rw [if_neg (by decide +kernel)]; exact ⟨rfl, rfl⟩))
    (fun os started H enc _ => rootTells_lifted os started H enc)
end Go.Proofs.Ytgnamdjmjkeodaa
