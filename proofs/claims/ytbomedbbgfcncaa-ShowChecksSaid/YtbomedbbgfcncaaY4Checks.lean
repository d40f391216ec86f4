/-
  ShowChecks: what Check tells of a value is what the reference tells, for every input.
-/
import Derived.Test.YtbomedbbgfcncaaY4cFns
import Derived.JoinedOf
import Derived.SizedLaws
namespace Go.Proofs.Ytbomedbbgfcncaa
open Go.EX Go.ChangeShapes Go.WideShapes Go.ChangeAt Go.RowKit
set_option linter.unusedVariables false

theorem own : ownKnob Try.prog.godebug = none := by kernel_rfl
theorem laidOut : laidOutB Try.prog = true := by kernel_rfl

theorem readsVal : ReadsAs Try.prog 36 tVal :=
  readsVia (σ := tVal) (readsStruct (τ := tPair (tInt .u8) (tPair (tInt .i64) tNil)) Try.underlying36 (readsCons (readsInt Try.underlying26) rfl (by kernel_rfl) (readsCons (readsInt Try.underlying2) rfl (by kernel_rfl) (readsNil _))) (by kernel_rfl))
    (fun (x : Int × Int × Unit) => (⟨x.1, x.2.1⟩ : Val)) (fun _ => rfl) (fun _ h => ⟨h.1, h.2.1⟩) rfl

theorem readsVals : ReadsAs Try.prog 24 (tSl tVal) := readsSl Try.underlying24 readsVal (by kernel_rfl) (by decide) (of_decide_eq_true (by kernel_rfl))

theorem readsObj : ReadsAs Try.prog 28 tObj :=
  readsVia (σ := tObj) (readsStruct (τ := tPair (tInt .u8) (tPair tStr (tPair (tSl tVal) (tPair (tInt .i64) (tPair (tInt .i64) tNil))))) Try.underlying28
    (readsCons (readsInt Try.underlying26) rfl (by kernel_rfl) (readsCons (readsStr Try.underlying9) rfl (by kernel_rfl) (readsCons readsVals rfl (by kernel_rfl) (readsCons (readsInt Try.underlying3) rfl (by kernel_rfl) (readsCons (readsInt Try.underlying3) rfl (by kernel_rfl) (readsNil _)))))) (by kernel_rfl))
    (fun (x : Int × ByteArray × Sl tVal × Int × Int × Unit) => Go.EX.Obj.mk x.1 x.2.1 x.2.2.1 x.2.2.2.1 x.2.2.2.2.1) (fun _ => rfl) (fun _ h => ⟨h.1, h.2.1, h.2.2.2.1, h.2.2.2.2.1⟩) rfl

theorem readsStore : ReadsAs Try.prog 23 (tSl tObj) := readsSl Try.underlying23 readsObj (by kernel_rfl) (by decide) (of_decide_eq_true (by kernel_rfl))

theorem specChecks : LawSpec Rows.showChecksSpec Try.f4.params.toList.length :=
  ⟨rfl, fun H ds h => match ds, h with | [_, _], _ => rfl⟩

set_option maxRecDepth 100000 in
theorem lifted (os : Os) (started : os.Started) (H : Type) (enc : TypeId × Value → H) :
    ReturnsInHanded {} Try.checked os 4 .any (Rows.showChecksSpec.pre6 enc Try.prog Try.f4 Rows.showChecksRow.domain false) (Rows.showChecksSpec.post enc Try.prog Try.f4 false true false false) := by
  refine returnsInHanded_of_change_sized (C := Try.checked) own started (by kernel_rfl) Try.func4
    (ChangeSpec.witness6 (enc := enc) (C := Try.checked) false ⟨#[], #[.slice none 0 0, .agg #[.int .u8 0, .int .i64 0]], []⟩ 8 (by kernel_rfl) (by kernel_rfl) (by kernel_rfl) (by kernel_rfl)) ?_
  intro W base args ds gs before hval hW _ hwt _
  refine law_contract runs specChecks laidOut (by kernel_rfl) (tb := 4) (by kernel_rfl) Try.underlying4 (ArgsOf.cons readsStore (by kernel_rfl) (ArgsOf.cons readsVal (by kernel_rfl) ArgsOf.nil)) ?_ W base args ds gs before hval hW hwt
  rintro l ⟨x, _, _, rfl, y, _, hy, rfl, rfl⟩
  exact showChecks_ok (fun _ _ h => h) x.ok y hy

theorem checks_holds : Rows.ShowChecksSaid :=
  OpenClaim.holds_of_wide 4 Try.f4 rfl rfl rfl rfl rfl rfl rfl ⟨rfl, rfl, rfl, rfl, rfl⟩ rfl rfl rfl rfl rfl (by kernel_rfl) Try.func4 (by kernel_rfl)
    (of_decide_eq_true (by kernel_rfl)) (by unfold Func.isWrapper; first | (rw [if_pos (by decide +kernel)]; kernel_rfl) | (rw [if_neg (by decide +kernel)]; exact ⟨rfl, rfl⟩))
    (fun os started H enc _ => lifted os started H enc)

#print axioms checks_holds
end Go.Proofs.Ytbomedbbgfcncaa
