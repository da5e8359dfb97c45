/- The law FaintTells, as the given row says it. -/
import Derived.Test.YtgnamdjmjkeodaaKepts
import Derived.Test.YtgnamdjmjkeodaaTie
namespace Go.Proofs.Ytgnamdjmjkeodaa
open Go Go.ChangeShapes Go.WideShapes Go.ChangeAt Go.RowKit
set_option maxRecDepth 100000
set_option maxHeartbeats 1000000
theorem faintTells_lifted (os : Os) (started : os.Started) (H : Type) (enc : TypeId × Value → H) :
    ReturnsInHanded {} Try.checked os 11 .any (Rows.faintTellsSpec.pre6 enc Try.prog Try.f11 Rows.faintTellsRow.domain false) (Rows.faintTellsSpec.post enc Try.prog Try.f11 false true false false) := by
  refine returnsInHanded_of_change_sized (C := Try.checked) (by kernel_rfl) started (by kernel_rfl) Try.func11
    (ChangeSpec.witness6 (enc := enc) (C := Try.checked) false ⟨#[], #[.slice none 0 0, .slice none 0 0, .slice none 0 0], []⟩ 8 (by kernel_rfl) (by kernel_rfl) (by kernel_rfl) (by kernel_rfl)) ?_
  intro W base args ds gs before hval hW _ hwt _
  refine law_contract (P := Try.prog) (fn := Try.f11) (r := Rows.faintTellsSpec) (tb := 4) @ok_lawFaintTells (by kernel_rfl) (by kernel_rfl) (by kernel_rfl) (by kernel_rfl) Try.underlying4 rfl ?_ hval hW hwt
  intro ds hd
  have hd2 : ds.length = 3 := hd.trans (by kernel_rfl)
  match ds, hd2 with
  | [_, _, _], _ => rfl
theorem faintTells_holds : Rows.FaintTellsSaid :=
  OpenClaim.holds_of_wide 11 Try.f11 rfl rfl rfl rfl rfl rfl rfl ⟨rfl, rfl, rfl, rfl, rfl⟩ rfl rfl rfl rfl rfl (by kernel_rfl) Try.func11 (by kernel_rfl)
    (of_decide_eq_true (by kernel_rfl)) (by unfold Func.isWrapper; first | (rw [if_pos (by decide +kernel)]; kernel_rfl) | (rw [if_neg (by decide +kernel)]; exact ⟨rfl, rfl⟩))
    (fun os started H enc _ => faintTells_lifted os started H enc)
end Go.Proofs.Ytgnamdjmjkeodaa
