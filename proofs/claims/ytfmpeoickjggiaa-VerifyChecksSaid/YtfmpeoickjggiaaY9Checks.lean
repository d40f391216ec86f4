/-
  VerifyChecks: whether code can do no harm, and the first place at which it may, is told as the reference tells, for every input.
-/
import Derived.Test.YtfmpeoickjggiaaY9Reads
import Derived.Test.YtfmpeoickjggiaaE9o
namespace Go.Proofs.Ytfmpeoickjggiaa
open Go.EX Go.ChangeShapes Go.WideShapes Go.ChangeAt Go.RowKit
set_option linter.unusedVariables false

theorem specChecks : LawSpec Rows.verifyChecksSpec Try.f3.params.toList.length :=
  ⟨rfl, fun H ds h => match ds, h with | [_], _ => rfl⟩

set_option maxRecDepth 100000 in
theorem liftedChecks (os : Os) (started : os.Started) (H : Type) (enc : TypeId × Value → H) :
    ReturnsInHanded {} Try.checked os 3 .any (Rows.verifyChecksSpec.pre6 enc Try.prog Try.f3 Rows.verifyChecksRow.domain false) (Rows.verifyChecksSpec.post enc Try.prog Try.f3 false true false false) := by
  refine returnsInHanded_of_change_sized (C := Try.checked) own started (by kernel_rfl) Try.func3
    (ChangeSpec.witness6 (enc := enc) (C := Try.checked) false ⟨#[], #[.slice none 0 0], []⟩ 8 (by kernel_rfl) (by kernel_rfl) (by kernel_rfl) (by kernel_rfl)) ?_
  intro W base args ds gs before hval hW _ hwt _
  refine law_contract runs specChecks laidOut (by kernel_rfl) (tb := 4) (by kernel_rfl) Try.underlying4 (ArgsOf.cons readsProg (by kernel_rfl) ArgsOf.nil) ?_ W base args ds gs before hval hW hwt
  rintro l ⟨x, _, _, rfl, rfl⟩
  exact verifyChecks_ok x.ok

theorem checks_holds : Rows.VerifyChecksSaid :=
  OpenClaim.holds_of_wide 3 Try.f3 rfl rfl rfl rfl rfl rfl rfl ⟨rfl, rfl, rfl, rfl, rfl⟩ rfl rfl rfl rfl rfl (by kernel_rfl) Try.func3 (by kernel_rfl)
    (of_decide_eq_true (by kernel_rfl)) (by unfold Func.isWrapper; first | (rw [if_pos (by decide +kernel)]; kernel_rfl) | (rw [if_neg (by decide +kernel)]; exact ⟨rfl, rfl⟩))
    (fun os started H enc _ => liftedChecks os started H enc)

#print axioms checks_holds
end Go.Proofs.Ytfmpeoickjggiaa
