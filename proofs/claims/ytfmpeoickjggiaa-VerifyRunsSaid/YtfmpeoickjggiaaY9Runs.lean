/-
  VerifyRuns: however code that may be goes on from place to place, its stack is as deep as was told, for every input.
-/
import Derived.Test.YtfmpeoickjggiaaY9Reads
import Derived.Test.YtfmpeoickjggiaaV9x
import Derived.JoinedOf
import Derived.SizedLaws
namespace Go.Proofs.Ytfmpeoickjggiaa
open Go.EX Go.ChangeShapes Go.WideShapes Go.ChangeAt Go.RowKit
set_option linter.unusedVariables false

theorem spec : LawSpec Rows.verifyRunsSpec Try.f4.params.toList.length :=
  ⟨rfl, fun H ds h => match ds, h with | [_, _, _], _ => rfl⟩

set_option maxRecDepth 100000 in
theorem lifted (os : Os) (started : os.Started) (H : Type) (enc : TypeId × Value → H) :
    ReturnsInHanded {} Try.checked os 4 .any (Rows.verifyRunsSpec.pre6 enc Try.prog Try.f4 Rows.verifyRunsRow.domain false) (Rows.verifyRunsSpec.post enc Try.prog Try.f4 false true false false) := by
  refine returnsInHanded_of_change_sized (C := Try.checked) own started (by kernel_rfl) Try.func4
    (ChangeSpec.witness6 (enc := enc) (C := Try.checked) false ⟨#[], #[.slice none 0 0, .int .i64 0, .slice none 0 0], []⟩ 8 (by kernel_rfl) (by kernel_rfl) (by kernel_rfl) (by kernel_rfl)) ?_
  intro W base args ds gs before hval hW _ hwt _
  refine law_contract runs spec laidOut (by kernel_rfl) (tb := 4) (by kernel_rfl) Try.underlying4 (ArgsOf.cons readsProg (by kernel_rfl) (ArgsOf.cons (readsInt Try.underlying3) (by kernel_rfl) (ArgsOf.cons readsU8s (by kernel_rfl) ArgsOf.nil))) ?_ W base args ds gs before hval hW hwt
  rintro l ⟨x, _, _, rfl, y, _, hy, rfl, z, _, _, rfl, rfl⟩
  exact verifyRuns_ok x.ok z.ok y (wfI64.1 hy)

theorem runs_holds : Rows.VerifyRunsSaid :=
  OpenClaim.holds_of_wide 4 Try.f4 rfl rfl rfl rfl rfl rfl rfl ⟨rfl, rfl, rfl, rfl, rfl⟩ rfl rfl rfl rfl rfl (by kernel_rfl) Try.func4 (by kernel_rfl)
    (of_decide_eq_true (by kernel_rfl)) (by unfold Func.isWrapper; first | (rw [if_pos (by decide +kernel)]; kernel_rfl) | (rw [if_neg (by decide +kernel)]; exact ⟨rfl, rfl⟩))
    (fun os started H enc _ => lifted os started H enc)

#print axioms runs_holds
end Go.Proofs.Ytfmpeoickjggiaa
