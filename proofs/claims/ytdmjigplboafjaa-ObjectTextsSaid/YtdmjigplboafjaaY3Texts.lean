import Derived.Test.YtdmjigplboafjaaK10
import Derived.Test.YtdmjigplboafjaaK11
import Derived.JoinedOf
import Derived.SizedLaws
namespace Go.Proofs.Ytdmjigplboafjaa
open Go.EX Go.ChangeShapes Go.WideShapes Go.ChangeAt Go.RowKit
set_option linter.unusedVariables false
theorem own : ownKnob Try.prog.godebug = none := by kernel_rfl
theorem laidOut : laidOutB Try.prog = true := by kernel_rfl
theorem readsText : ReadsAs Try.prog 9 tStr := readsStr Try.underlying9
theorem spec : LawSpec Rows.objectTextsSpec Try.f3.params.toList.length :=
 ⟨rfl, fun H ds h => match ds, h with | [_], _ => rfl⟩
set_option maxRecDepth 100000 in
theorem lifted (os : Os) (started : os.Started) (H : Type) (enc : TypeId × Value → H) :
  ReturnsInHanded {} Try.checked os 3 .any (Rows.objectTextsSpec.pre6 enc Try.prog Try.f3 Rows.objectTextsRow.domain false) (Rows.objectTextsSpec.post enc Try.prog Try.f3 false true false false) := by
 refine returnsInHanded_of_change_sized (C := Try.checked) own started (by kernel_rfl) Try.func3
  (ChangeSpec.witness6 (enc := enc) (C := Try.checked) false ⟨#[], #[.string .empty], []⟩ 8 (by kernel_rfl) (by kernel_rfl) (by kernel_rfl) (by kernel_rfl)) ?_
 intro W base args ds gs before hval hW _ hwt _
 refine zf7 runs spec laidOut (by kernel_rfl) (tb := 4) (by kernel_rfl) Try.underlying4 (ArgsOf.cons readsText (by kernel_rfl) ArgsOf.nil) ?_ W base args ds gs before hval hW hwt
 rintro l ⟨x, _, hx, rfl, rfl⟩
 exact ⟨_, objectTexts3 _ x⟩
theorem texts_holds : Rows.ObjectTextsSaid :=
 OpenClaim.holds_of_wide 3 Try.f3 rfl rfl rfl rfl rfl rfl rfl ⟨rfl, rfl, rfl, rfl, rfl⟩ rfl rfl rfl rfl rfl (by kernel_rfl) Try.func3 (by kernel_rfl)
  (of_decide_eq_true (by kernel_rfl)) (by unfold Func.isWrapper; first | (rw [if_pos (by decide +kernel)]; kernel_rfl) | (rw [if_neg (by decide +kernel)]; exact ⟨rfl, rfl⟩))
  (fun os started H enc _ => lifted os started H enc)
#print axioms texts_holds
end Go.Proofs.Ytdmjigplboafjaa

