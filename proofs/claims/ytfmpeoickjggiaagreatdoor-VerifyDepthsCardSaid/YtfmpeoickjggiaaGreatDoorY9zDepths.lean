import Derived.Test.YtfmpeoickjggiaaGreatDoorY9zFns
import Derived.Test.YtfmpeoickjggiaaGreatDoorV9b
import Derived.Test.YtfmpeoickjggiaaGreatDoorE9u
import Derived.Test.YtfmpeoickjggiaaGreatDoorTie
import Derived.Test.YtfmpeoickjggiaaGreatDoorCards
import Derived.ProofKit
import Derived.LaidMore
import Derived.OpenShut
import Derived.Stop.Joined
import Derived.JoinedOf
import Derived.SizedLaws
import Derived.SevenTiedAt
namespace Go.Proofs.YtfmpeoickjggiaaGreatDoor
open Go.EX Go.ChangeShapes Go.WideShapes Go.ChangeAt Go.RowKit
set_option linter.unusedVariables false
theorem own : ownKnob Tryz.prog.godebug = none := by kernel_rfl
theorem laidOut : laidOutB Tryz.prog = true := by kernel_rfl
theorem readsInts : ReadsAs Tryz.prog 26 (tSl (tInt .i64)) := readsSl Tryz.underlying26 (readsInt Tryz.underlying3) (by kernel_rfl) (by decide) (of_decide_eq_true (by kernel_rfl))
theorem readsCap : ReadsAs Tryz.prog 143 tCap :=
  readsVia (σ := tCap) (readsStruct (τ := tPair tBool (tPair (tInt .i64) tNil)) Tryz.underlying143 (readsCons (readsBool Tryz.underlying4) rfl (by kernel_rfl) (readsCons (readsInt Tryz.underlying3) rfl (by kernel_rfl) (readsNil _))) (by kernel_rfl))
    (fun (x : Bool × Int × Unit) => (⟨x.1, x.2.1⟩ : Go.EX.Cap)) (fun _ => rfl) (fun _ h => h.2.1) rfl
theorem readsConst : ReadsAs Tryz.prog 138 tConst :=
  readsVia (σ := tConst) (readsStruct (τ := tPair (tInt .u8) (tPair (tInt .i64) (tPair tStr tNil))) Tryz.underlying138 (readsCons (readsInt Tryz.underlying122) rfl (by kernel_rfl) (readsCons (readsInt Tryz.underlying2) rfl (by kernel_rfl) (readsCons (readsStr Tryz.underlying9) rfl (by kernel_rfl) (readsNil _)))) (by kernel_rfl))
    (fun (x : Int × Int × ByteArray × Unit) => (⟨x.1, x.2.1, x.2.2.1⟩ : Go.EX.Const)) (fun _ => rfl) (fun _ h => ⟨h.1, h.2.1, h.2.2.1⟩) rfl
theorem readsIns : ReadsAs Tryz.prog 92 tIns :=
  readsVia (σ := tIns) (readsStruct (τ := tPair (tInt .u8) (tPair (tInt .i64) tNil)) Tryz.underlying92 (readsCons (readsInt Tryz.underlying90) rfl (by kernel_rfl) (readsCons (readsInt Tryz.underlying3) rfl (by kernel_rfl) (readsNil _))) (by kernel_rfl))
    (fun (x : Int × Int × Unit) => (⟨x.1, x.2.1⟩ : Go.EX.Ins)) (fun _ => rfl) (fun _ h => ⟨h.1, h.2.1⟩) rfl
theorem readsHandler : ReadsAs Tryz.prog 98 tHandler :=
  readsVia (σ := tHandler) (readsStruct (τ := tPair (tInt .i64) (tPair (tInt .i64) (tPair (tInt .i64) (tPair (tInt .i64) tNil)))) Tryz.underlying98
    (readsCons (readsInt Tryz.underlying3) rfl (by kernel_rfl) (readsCons (readsInt Tryz.underlying3) rfl (by kernel_rfl) (readsCons (readsInt Tryz.underlying3) rfl (by kernel_rfl) (readsCons (readsInt Tryz.underlying3) rfl (by kernel_rfl) (readsNil _))))) (by kernel_rfl))
    (fun (x : Int × Int × Int × Int × Unit) => (⟨x.1, x.2.1, x.2.2.1, x.2.2.2.1⟩ : Go.EX.Handler)) (fun _ => rfl) (fun _ h => ⟨h.1, h.2.1, h.2.2.1, h.2.2.2.1⟩) rfl
theorem readsCaps : ReadsAs Tryz.prog 57 (tSl tCap) := readsSl Tryz.underlying57 readsCap (by kernel_rfl) (by decide) (of_decide_eq_true (by kernel_rfl))
theorem readsConsts : ReadsAs Tryz.prog 58 (tSl tConst) := readsSl Tryz.underlying58 readsConst (by kernel_rfl) (by decide) (of_decide_eq_true (by kernel_rfl))
theorem readsInses : ReadsAs Tryz.prog 59 (tSl tIns) := readsSl Tryz.underlying59 readsIns (by kernel_rfl) (by decide) (of_decide_eq_true (by kernel_rfl))
theorem readsHandlers : ReadsAs Tryz.prog 60 (tSl tHandler) := readsSl Tryz.underlying60 readsHandler (by kernel_rfl) (by decide) (of_decide_eq_true (by kernel_rfl))
theorem readsFn : ReadsAs Tryz.prog 62 tFn :=
  readsVia (σ := tFn) (readsStruct (τ := tPair tStr (tPair (tInt .i64) (tPair (tInt .i64) (tPair (tSl tCap) (tPair (tSl tConst) (tPair (tSl tIns) (tPair (tSl (tInt .i64)) (tPair (tSl tHandler) tNil)))))))) Tryz.underlying62
    (readsCons (readsStr Tryz.underlying9) rfl (by kernel_rfl) (readsCons (readsInt Tryz.underlying3) rfl (by kernel_rfl) (readsCons (readsInt Tryz.underlying3) rfl (by kernel_rfl) (readsCons readsCaps rfl (by kernel_rfl) (readsCons readsConsts rfl (by kernel_rfl)
      (readsCons readsInses rfl (by kernel_rfl) (readsCons readsInts rfl (by kernel_rfl) (readsCons readsHandlers rfl (by kernel_rfl) (readsNil _))))))))) (by kernel_rfl))
    (fun (x : ByteArray × Int × Int × Sl tCap × Sl tConst × Sl tIns × Sl (tInt .i64) × Sl tHandler × Unit) => (⟨x.1, x.2.1, x.2.2.1, x.2.2.2.1, x.2.2.2.2.1, x.2.2.2.2.2.1, x.2.2.2.2.2.2.1, x.2.2.2.2.2.2.2.1⟩ : Go.EX.Fn)) (fun _ => rfl) (fun _ h => ⟨h.1, h.2.1, h.2.2.1⟩) rfl
theorem readsProg : ReadsAs Tryz.prog 23 (tSl tFn) := readsSl Tryz.underlying23 readsFn (by kernel_rfl) (by decide) (of_decide_eq_true (by kernel_rfl))
theorem specDepths : LawSpec Rows.verifyDepthsSpec Tryz.f3.params.toList.length :=
  ⟨rfl, fun H ds h => match ds, h with | [_, _], _ => rfl⟩
theorem door_met (os : Os) (args : Array Value) : laidMetH Tryz.prog Rows.verifyDepthsRow.laid ((World.doorLaid Tryz.prog 400 os).forCall (fun _ _ => 0) ⟨#[], args, []⟩).memory :=
  laidMetH_of_parts3 (fuel := 8) (laidMet_of_run' 8 (by kernel_rfl) (by kernel_rfl)) (by kernel_rfl) (by kernel_rfl)
set_option maxRecDepth 100000 in
theorem lifted (os : Os) (started : os.Started) (H : Type) (enc : TypeId × Value → H) :
    ReturnsInHanded {} Tryz.checked os 3 .any (fun w args => (Rows.verifyDepthsSpec.pre enc Tryz.prog Tryz.f3 [] false w args ∧ laidMetH Tryz.prog Rows.verifyDepthsRow.laid w) ∧ sizedMet enc Tryz.prog Tryz.f3 (OpenSpec.ofChange Rows.verifyDepthsSpec) false w args)
      (Rows.verifyDepthsSpec.post enc Tryz.prog Tryz.f3 false true false false) := by
  refine returnsInHanded_of_change_and (C := Tryz.checked) (X := fun w _ => laidMetH Tryz.prog Rows.verifyDepthsRow.laid w) (fun _ _ _ hh h => h.of_heap hh) own started (by kernel_rfl) Tryz.func3
    (ChangeSpec.witness_shaped (enc := enc) (C := Tryz.checked) (os := os) (X := fun w _ => laidMetH Tryz.prog Rows.verifyDepthsRow.laid w) false (World.doorLaid Tryz.prog 400 os) #[.slice none 0 0, .int .i64 0] 8 rfl (World.shaped_of_RefB (by kernel_rfl) (by kernel_rfl)) (by kernel_rfl) (by kernel_rfl) (by kernel_rfl) (door_met os _)) ?_
  intro W base args ds gs before hval hW _ hwt _ _
  refine law_contract runs specDepths laidOut (by kernel_rfl) (tb := 4) (by kernel_rfl) Tryz.underlying4 (ArgsOf.cons readsProg (by kernel_rfl) (ArgsOf.cons (readsInt Tryz.underlying3) (by kernel_rfl) ArgsOf.nil)) ?_ W base args ds gs before hval hW hwt
  rintro l ⟨x, _, _, rfl, i, _, hi, rfl, rfl⟩
  exact verifyDepths_ok x.ok i (wfI64.1 hi)
theorem depths_said : Rows.VerifyDepthsSaid :=
  OpenClaim.holds_of_wide 3 Tryz.f3 rfl rfl rfl rfl rfl rfl rfl ⟨rfl, rfl, rfl, rfl, rfl⟩ rfl rfl rfl rfl rfl (by kernel_rfl) Tryz.func3 (by kernel_rfl)
    (of_decide_eq_true (by kernel_rfl)) (by unfold Func.isWrapper; first | (rw [if_pos (by decide +kernel)]; kernel_rfl) | (rw [if_neg (by decide +kernel)]; exact ⟨rfl, rfl⟩))
    (fun os started H enc _ => lifted os started H enc)
theorem depths_holds : Rows.VerifyDepthsCardSaid :=
  Claim7.holds_tied_plain_at .later [] [.data, .data, .data] true (true, "1aa03f6490ecdd254e729a4b3bd73e7ca54061b4f09cc8d86d3b90e1c962dfc3") false
    depths_said (fun _ h => by cases h) (by kernel_rfl) (fun _ h => by cases h) verifyDepths_row_tie rfl ⟨rfl, rfl⟩ (by kernel_rfl) rfl
    (fun f fn hf hfn => by
      obtain rfl : f = 3 := Option.some.inj ((show Tryz.prog.funcNamed "gearbox/gearboxlaw09.VerifyDepths" = some 3 by kernel_rfl).symm.trans hf) |>.symm
      obtain rfl : fn = Tryz.f3 := (Option.some.inj (Tryz.func3.symm.trans hfn)).symm
      exact ⟨by kernel_rfl, fun j t ht => by
        rw [Tryz.params3] at ht
        have hm : t ∈ [23, 3] := by simpa using Array.mem_of_getElem? ht
        have hall : ([23, 3].all fun u => !Tryz.prog.wantsStandIn u) = true := by kernel_rfl
        exact (show Tryz.prog.wantsStandIn t = false by simpa using List.all_eq_true.1 hall t hm)⟩)
    (by kernel_rfl)
#print axioms depths_holds
end Go.Proofs.YtfmpeoickjggiaaGreatDoor

