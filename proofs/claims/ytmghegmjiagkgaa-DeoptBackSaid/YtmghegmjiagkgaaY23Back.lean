/-
  DeoptBack: an exit whose slots are an entry's registers tells what came in there, for every input.
-/
import Derived.Test.YtmghegmjiagkgaaY23Fns
import Derived.JoinedOf
set_option linter.unusedSimpArgs false
namespace Go.Proofs.Ytmghegmjiagkgaa
open Go.EX Go.ChangeShapes Go.WideShapes Go.ChangeAt Go.RowKit
set_option linter.unusedVariables false

theorem own : ownKnob Try.prog.godebug = none := by kernel_rfl
theorem laidOut : laidOutB Try.prog = true := by kernel_rfl

theorem readsU8s : ReadsAs Try.prog 22 (tSl (tInt .u8)) := readsSl Try.underlying22 (readsInt Try.underlying5) (by kernel_rfl) (by decide)

theorem readsVal : ReadsAs Try.prog 48 tVal :=
  readsVia (σ := tVal) (readsStruct (τ := tPair (tInt .u8) (tPair (tInt .i64) tNil)) Try.underlying48 (readsCons (readsInt Try.underlying28) rfl (by kernel_rfl) (readsCons (readsInt Try.underlying2) rfl (by kernel_rfl) (readsNil _))) (by kernel_rfl))
    (fun (x : Int × Int × Unit) => (⟨x.1, x.2.1⟩ : Val)) (fun _ => rfl) (fun _ h => ⟨h.1, h.2.1⟩) rfl

theorem readsVals : ReadsAs Try.prog 23 (tSl tVal) := readsSl Try.underlying23 readsVal (by kernel_rfl) (by decide)

theorem spec : LawSpec Rows.deoptBackSpec Try.f3.params.toList.length :=
  ⟨rfl, fun H ds h => match ds, h with | [_, _], _ => rfl⟩

set_option maxRecDepth 100000 in
theorem lifted (os : Os) (started : os.Started) (H : Type) (enc : TypeId × Value → H) :
    ReturnsInHanded {} Try.checked os 3 .any (Rows.deoptBackSpec.pre6 enc Try.prog Try.f3 Rows.deoptBackRow.domain false) (Rows.deoptBackSpec.post enc Try.prog Try.f3 false true false false) := by
  refine returnsInHanded_of_change (C := Try.checked) own started (by kernel_rfl) Try.func3
    (ChangeSpec.witness6 (enc := enc) (C := Try.checked) false ⟨#[], #[.slice none 0 0, .slice none 0 0], []⟩ 8 (by kernel_rfl) (by kernel_rfl) (by kernel_rfl) (by kernel_rfl)) ?_
  intro W base args ds gs before hval hW _ _
  refine law_contract runs spec laidOut (by kernel_rfl) (tb := 4) (by kernel_rfl) Try.underlying4 (ArgsOf.cons readsU8s (by kernel_rfl) (ArgsOf.cons readsVals (by kernel_rfl) ArgsOf.nil)) ?_ W base args ds gs before hval hW
  rintro l ⟨x, _, _, rfl, y, _, _, rfl, rfl⟩
  exact back_ok (fun _ _ h => h) x.ok y.ok

theorem back_holds : Rows.DeoptBackSaid :=
  OpenClaim.holds_of_wide 3 Try.f3 rfl rfl rfl rfl rfl rfl rfl ⟨rfl, rfl, rfl, rfl, rfl⟩ rfl rfl rfl rfl rfl (by kernel_rfl) Try.func3 (by kernel_rfl)
    (of_decide_eq_true (by kernel_rfl)) (by unfold Func.isWrapper; first | (rw [if_pos (by decide +kernel)]; kernel_rfl) | (rw [if_neg (by decide +kernel)]; exact ⟨rfl, rfl⟩))
    (fun os started H enc _ => lifted os started H enc)

#print axioms back_holds
end Go.Proofs.Ytmghegmjiagkgaa
