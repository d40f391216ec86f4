/-
  What the arguments of law 09's statements can be.
-/
import Derived.Test.YtfmpeoickjggiaaY9Fns
import Derived.Test.YtfmpeoickjggiaaV9b
import Derived.JoinedOf
import Derived.SizedLaws
namespace Go.Proofs.Ytfmpeoickjggiaa
open Go.EX Go.ChangeShapes Go.WideShapes Go.ChangeAt Go.RowKit
set_option linter.unusedVariables false

theorem own : ownKnob Try.prog.godebug = none := by kernel_rfl
theorem laidOut : laidOutB Try.prog = true := by kernel_rfl

theorem readsU8s : ReadsAs Try.prog 30 (tSl (tInt .u8)) := readsSl Try.underlying30 (readsInt Try.underlying5) (by kernel_rfl) (by decide) (of_decide_eq_true (by kernel_rfl))
theorem readsInts : ReadsAs Try.prog 32 (tSl (tInt .i64)) := readsSl Try.underlying32 (readsInt Try.underlying3) (by kernel_rfl) (by decide) (of_decide_eq_true (by kernel_rfl))

theorem readsCap : ReadsAs Try.prog 106 tCap :=
  readsVia (σ := tCap) (readsStruct (τ := tPair tBool (tPair (tInt .i64) tNil)) Try.underlying106 (readsCons (readsBool Try.underlying4) rfl (by kernel_rfl) (readsCons (readsInt Try.underlying3) rfl (by kernel_rfl) (readsNil _))) (by kernel_rfl))
    (fun (x : Bool × Int × Unit) => (⟨x.1, x.2.1⟩ : Go.EX.Cap)) (fun _ => rfl) (fun _ h => h.2.1) rfl
theorem readsConst : ReadsAs Try.prog 78 tConst :=
  readsVia (σ := tConst) (readsStruct (τ := tPair (tInt .u8) (tPair (tInt .i64) (tPair tStr tNil))) Try.underlying78 (readsCons (readsInt Try.underlying76) rfl (by kernel_rfl) (readsCons (readsInt Try.underlying2) rfl (by kernel_rfl) (readsCons (readsStr Try.underlying9) rfl (by kernel_rfl) (readsNil _)))) (by kernel_rfl))
    (fun (x : Int × Int × ByteArray × Unit) => (⟨x.1, x.2.1, x.2.2.1⟩ : Go.EX.Const)) (fun _ => rfl) (fun _ h => ⟨h.1, h.2.1, h.2.2.1⟩) rfl
theorem readsIns : ReadsAs Try.prog 43 tIns :=
  readsVia (σ := tIns) (readsStruct (τ := tPair (tInt .u8) (tPair (tInt .i64) tNil)) Try.underlying43 (readsCons (readsInt Try.underlying41) rfl (by kernel_rfl) (readsCons (readsInt Try.underlying3) rfl (by kernel_rfl) (readsNil _))) (by kernel_rfl))
    (fun (x : Int × Int × Unit) => (⟨x.1, x.2.1⟩ : Go.EX.Ins)) (fun _ => rfl) (fun _ h => ⟨h.1, h.2.1⟩) rfl
theorem readsHandler : ReadsAs Try.prog 45 tHandler :=
  readsVia (σ := tHandler) (readsStruct (τ := tPair (tInt .i64) (tPair (tInt .i64) (tPair (tInt .i64) (tPair (tInt .i64) tNil)))) Try.underlying45
    (readsCons (readsInt Try.underlying3) rfl (by kernel_rfl) (readsCons (readsInt Try.underlying3) rfl (by kernel_rfl) (readsCons (readsInt Try.underlying3) rfl (by kernel_rfl) (readsCons (readsInt Try.underlying3) rfl (by kernel_rfl) (readsNil _))))) (by kernel_rfl))
    (fun (x : Int × Int × Int × Int × Unit) => (⟨x.1, x.2.1, x.2.2.1, x.2.2.2.1⟩ : Go.EX.Handler)) (fun _ => rfl) (fun _ h => ⟨h.1, h.2.1, h.2.2.1, h.2.2.2.1⟩) rfl
theorem readsCaps : ReadsAs Try.prog 35 (tSl tCap) := readsSl Try.underlying35 readsCap (by kernel_rfl) (by decide) (of_decide_eq_true (by kernel_rfl))
theorem readsConsts : ReadsAs Try.prog 36 (tSl tConst) := readsSl Try.underlying36 readsConst (by kernel_rfl) (by decide) (of_decide_eq_true (by kernel_rfl))
theorem readsInses : ReadsAs Try.prog 37 (tSl tIns) := readsSl Try.underlying37 readsIns (by kernel_rfl) (by decide) (of_decide_eq_true (by kernel_rfl))
theorem readsHandlers : ReadsAs Try.prog 38 (tSl tHandler) := readsSl Try.underlying38 readsHandler (by kernel_rfl) (by decide) (of_decide_eq_true (by kernel_rfl))

theorem readsFn : ReadsAs Try.prog 40 tFn :=
  readsVia (σ := tFn) (readsStruct (τ := tPair tStr (tPair (tInt .i64) (tPair (tInt .i64) (tPair (tSl tCap) (tPair (tSl tConst) (tPair (tSl tIns) (tPair (tSl (tInt .i64)) (tPair (tSl tHandler) tNil)))))))) Try.underlying40
    (readsCons (readsStr Try.underlying9) rfl (by kernel_rfl) (readsCons (readsInt Try.underlying3) rfl (by kernel_rfl) (readsCons (readsInt Try.underlying3) rfl (by kernel_rfl) (readsCons readsCaps rfl (by kernel_rfl) (readsCons readsConsts rfl (by kernel_rfl)
      (readsCons readsInses rfl (by kernel_rfl) (readsCons readsInts rfl (by kernel_rfl) (readsCons readsHandlers rfl (by kernel_rfl) (readsNil _))))))))) (by kernel_rfl))
    (fun (x : ByteArray × Int × Int × Sl tCap × Sl tConst × Sl tIns × Sl (tInt .i64) × Sl tHandler × Unit) => (⟨x.1, x.2.1, x.2.2.1, x.2.2.2.1, x.2.2.2.2.1, x.2.2.2.2.2.1, x.2.2.2.2.2.2.1, x.2.2.2.2.2.2.2.1⟩ : Go.EX.Fn)) (fun _ => rfl) (fun _ h => ⟨h.1, h.2.1, h.2.2.1⟩) rfl

theorem readsProg : ReadsAs Try.prog 23 (tSl tFn) := readsSl Try.underlying23 readsFn (by kernel_rfl) (by decide) (of_decide_eq_true (by kernel_rfl))

end Go.Proofs.Ytfmpeoickjggiaa
