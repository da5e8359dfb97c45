/- The law SlideTells, as the given row says it. -/
import Derived.Test.YtgnamdjmjkeodaaSlideLaw
import Derived.Test.YtgnamdjmjkeodaaTie
namespace Go.Proofs.Ytgnamdjmjkeodaa
open Go Go.ChangeShapes Go.WideShapes Go.ChangeAt Go.RowKit
set_option maxRecDepth 100000
set_option maxHeartbeats 1000000
theorem slideTells_lifted (os : Os) (started : os.Started) (H : Type) (enc : TypeId × Value → H) :
    ReturnsInHanded {} Try.checked os 7 .any (Rows.slideTellsSpec.pre6 enc Try.prog Try.f7 Rows.slideTellsRow.domain false) (Rows.slideTellsSpec.post enc Try.prog Try.f7 false true false false) := by
  refine returnsInHanded_of_change_sized (C := Try.checked) (by kernel_rfl) started (by kernel_rfl) Try.func7
    (ChangeSpec.witness6 (enc := enc) (C := Try.checked) false ⟨#[], #[.slice none 0 0, .slice none 0 0, .slice none 0 0], []⟩ 8 (by kernel_rfl) (by kernel_rfl) (by kernel_rfl) (by kernel_rfl)) ?_
  intro W base args ds gs before hval hW _ hwt _
  refine law_contract (P := Try.prog) (fn := Try.f7) (r := Rows.slideTellsSpec) (tb := 4) @ok_lawSlideTells (by kernel_rfl) (by kernel_rfl) (by kernel_rfl) (by kernel_rfl) Try.underlying4 rfl ?_ hval hW hwt
  intro ds hd
  have hd2 : ds.length = 3 := hd.trans (by kernel_rfl)
  match ds, hd2 with
  | [_, _, _], _ => rfl
theorem slideTells_holds : Rows.SlideTellsSaid :=
  OpenClaim.holds_of_wide 7 Try.f7 rfl rfl rfl rfl rfl rfl rfl ⟨rfl, rfl, rfl, rfl, rfl⟩ rfl rfl rfl rfl rfl (by kernel_rfl) Try.func7 (by kernel_rfl)
    (of_decide_eq_true (by kernel_rfl)) (by unfold Func.isWrapper; first | (rw [if_pos (by decide +kernel)]; kernel_rfl) | (rw [if_neg (by decide +kernel)]; exact ⟨rfl, rfl⟩))
    (fun os started H enc _ => slideTells_lifted os started H enc)
end Go.Proofs.Ytgnamdjmjkeodaa
