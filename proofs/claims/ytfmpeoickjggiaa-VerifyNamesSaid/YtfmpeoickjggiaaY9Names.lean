/-
  VerifyNames: the names and lines of functions make no difference to whether code can do harm, for every input.
-/
import Derived.Test.YtfmpeoickjggiaaY9Reads
import Derived.Test.YtfmpeoickjggiaaV9ye
namespace Go.Proofs.Ytfmpeoickjggiaa
open Go.EX Go.ChangeShapes Go.WideShapes Go.ChangeAt Go.RowKit
set_option linter.unusedVariables false

theorem specNames : LawSpec Rows.verifyNamesSpec Try.f5.params.toList.length :=
  ⟨rfl, fun H ds h => match ds, h with | [_], _ => rfl⟩

set_option maxRecDepth 100000 in
theorem liftedNames (os : Os) (started : os.Started) (H : Type) (enc : TypeId × Value → H) :
    ReturnsInHanded {} Try.checked os 5 .any (Rows.verifyNamesSpec.pre6 enc Try.prog Try.f5 Rows.verifyNamesRow.domain false) (Rows.verifyNamesSpec.post enc Try.prog Try.f5 false true false false) := by
  refine returnsInHanded_of_change_sized (C := Try.checked) own started (by kernel_rfl) Try.func5
    (ChangeSpec.witness6 (enc := enc) (C := Try.checked) false ⟨#[], #[.slice none 0 0], []⟩ 8 (by kernel_rfl) (by kernel_rfl) (by kernel_rfl) (by kernel_rfl)) ?_
  intro W base args ds gs before hval hW _ hwt _
  refine law_contract runs specNames laidOut (by kernel_rfl) (tb := 4) (by kernel_rfl) Try.underlying4 (ArgsOf.cons readsProg (by kernel_rfl) ArgsOf.nil) ?_ W base args ds gs before hval hW hwt
  rintro l ⟨x, _, _, rfl, rfl⟩
  exact verifyNames_ok x.ok

theorem names_holds : Rows.VerifyNamesSaid :=
  OpenClaim.holds_of_wide 5 Try.f5 rfl rfl rfl rfl rfl rfl rfl ⟨rfl, rfl, rfl, rfl, rfl⟩ rfl rfl rfl rfl rfl (by kernel_rfl) Try.func5 (by kernel_rfl)
    (of_decide_eq_true (by kernel_rfl)) (by unfold Func.isWrapper; first | (rw [if_pos (by decide +kernel)]; kernel_rfl) | (rw [if_neg (by decide +kernel)]; exact ⟨rfl, rfl⟩))
    (fun os started H enc _ => liftedNames os started H enc)

#print axioms names_holds
end Go.Proofs.Ytfmpeoickjggiaa
