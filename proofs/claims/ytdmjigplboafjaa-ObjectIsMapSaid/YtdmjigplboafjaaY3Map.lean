import Derived.Test.YtdmjigplboafjaaK10
import Derived.Test.YtdmjigplboafjaaK13
import Derived.JoinedOf
import Derived.SizedLaws
namespace Go.Proofs.Ytdmjigplboafjaa
open Go.EX Go.ChangeShapes Go.WideShapes Go.ChangeAt Go.RowKit
set_option linter.unusedVariables false
theorem ownM : ownKnob Try.prog.godebug = none := by kernel_rfl
theorem laidOutM : laidOutB Try.prog = true := by kernel_rfl
theorem readsTwo : ReadsAs Try.prog 46 tII := readsArr2 Try.underlying46 (readsInt Try.underlying2) (by kernel_rfl) (by kernel_rfl)
theorem readsTwos : ReadsAs Try.prog 40 (tSl tII) := readsSl Try.underlying40 readsTwo (by kernel_rfl) (by decide) (of_decide_eq_true (by kernel_rfl))
theorem readsFlag : ReadsAs Try.prog 4 tBool := readsBool Try.underlying4
theorem specM : LawSpec Rows.objectIsMapSpec Try.f4.params.toList.length :=
 ⟨rfl, fun H ds h => match ds, h with | [_, _, _], _ => rfl⟩
set_option maxRecDepth 100000 in
theorem liftedM (os : Os) (started : os.Started) (H : Type) (enc : TypeId × Value → H) :
  ReturnsInHanded {} Try.checked os 4 .any (Rows.objectIsMapSpec.pre6 enc Try.prog Try.f4 Rows.objectIsMapRow.domain false) (Rows.objectIsMapSpec.post enc Try.prog Try.f4 false true false false) := by
 refine returnsInHanded_of_change_sized (C := Try.checked) ownM started (by kernel_rfl) Try.func4
  (ChangeSpec.witness6 (enc := enc) (C := Try.checked) false ⟨#[], #[.slice none 0 0, .slice none 0 0, .bool false], []⟩ 8 (by kernel_rfl) (by kernel_rfl) (by kernel_rfl) (by kernel_rfl)) ?_
 intro W base args ds gs before hval hW _ hwt _
 refine zht runs specM laidOutM (by kernel_rfl) (tb := 4) (by kernel_rfl) Try.underlying4 (ArgsOf.cons readsTwos (by kernel_rfl) (ArgsOf.cons readsTwos (by kernel_rfl) (ArgsOf.cons readsFlag (by kernel_rfl) ArgsOf.nil))) ?_ W base args ds gs before hval hW hwt
 rintro l ⟨x, _, hx, rfl, y, _, hy, rfl, z, _, hz, rfl, rfl⟩
 exact objectIsMap3 _ x.ok y.ok z
theorem map_holds : Rows.ObjectIsMapSaid :=
 OpenClaim.holds_of_wide 4 Try.f4 rfl rfl rfl rfl rfl rfl rfl ⟨rfl, rfl, rfl, rfl, rfl⟩ rfl rfl rfl rfl rfl (by kernel_rfl) Try.func4 (by kernel_rfl)
  (of_decide_eq_true (by kernel_rfl)) (by unfold Func.isWrapper; first | (rw [if_pos (by decide +kernel)]; kernel_rfl) | (rw [if_neg (by decide +kernel)]; exact ⟨rfl, rfl⟩))
  (fun os started H enc _ => liftedM os started H enc)
#print axioms map_holds
end Go.Proofs.Ytdmjigplboafjaa

