/-
  DeoptFrames: what Frame tells at any exit is what the reference tells, in new memory, for every input; with what it lists tied to the program's text.
-/
import Derived.Test.YtmghegmjiagkgaaGreatDoorYDFns
import Derived.Test.YtmghegmjiagkgaaGreatDoorDm
import Derived.Test.YtmghegmjiagkgaaGreatDoorDs
import Derived.Test.YtmghegmjiagkgaaGreatDoorTie
import Derived.Test.YtmghegmjiagkgaaGreatDoorCards
import Derived.ProofKit
import Derived.LaidMore
import Derived.OpenShut
import Derived.Stop.Joined
import Derived.JoinedOf
import Derived.SizedLaws
import Derived.SevenTiedAt
namespace Go.Proofs.YtmghegmjiagkgaaGreatDoor
open Go.EX Go.ChangeShapes Go.WideShapes Go.ChangeAt Go.RowKit
set_option linter.unusedVariables false

theorem own : ownKnob Tryz.prog.godebug = none := by kernel_rfl
theorem laidOut : laidOutB Tryz.prog = true := by kernel_rfl

theorem readsVal : ReadsAs Tryz.prog 69 tVal :=
  readsVia (σ := tVal) (readsStruct (τ := tPair (tInt .u8) (tPair (tInt .i64) tNil)) Tryz.underlying69 (readsCons (readsInt Tryz.underlying65) rfl (by kernel_rfl) (readsCons (readsInt Tryz.underlying2) rfl (by kernel_rfl) (readsNil _))) (by kernel_rfl))
    (fun (x : Int × Int × Unit) => (⟨x.1, x.2.1⟩ : Val)) (fun _ => rfl) (fun _ h => ⟨h.1, h.2.1⟩) rfl

theorem readsVals : ReadsAs Tryz.prog 25 (tSl tVal) := readsSl Tryz.underlying25 readsVal (by kernel_rfl) (by decide) (of_decide_eq_true (by kernel_rfl))

theorem readsLoc : ReadsAs Tryz.prog 67 tLoc :=
  readsVia (σ := tLoc) (readsStruct (τ := tPair (tInt .i64) (tPair (tInt .u8) (tPair (tInt .i64) tNil))) Tryz.underlying67 (readsCons (readsInt Tryz.underlying3) rfl (by kernel_rfl) (readsCons (readsInt Tryz.underlying65) rfl (by kernel_rfl) (readsCons (readsInt Tryz.underlying2) rfl (by kernel_rfl) (readsNil _)))) (by kernel_rfl))
    (fun (x : Int × Int × Int × Unit) => Go.EX.Loc.mk x.1 x.2.1 x.2.2.1) (fun _ => rfl) (fun _ h => ⟨h.1, h.2.1, h.2.2.1⟩) rfl

theorem readsLocs : ReadsAs Tryz.prog 22 (tSl tLoc) := readsSl Tryz.underlying22 readsLoc (by kernel_rfl) (by decide) (of_decide_eq_true (by kernel_rfl))

theorem readsExit : ReadsAs Tryz.prog 24 tExit :=
  readsVia (σ := tExit) (readsStruct (τ := tPair (tInt .i64) (tPair (tSl tLoc) tNil)) Tryz.underlying24 (readsCons (readsInt Tryz.underlying3) rfl (by kernel_rfl) (readsCons readsLocs rfl (by kernel_rfl) (readsNil _))) (by kernel_rfl))
    (fun (x : Int × Sl tLoc × Unit) => (⟨x.1, x.2.1⟩ : Exit1)) (fun _ => rfl) (fun _ h => h.1) rfl

theorem specFrames : LawSpec Rows.deoptFramesSpec Tryz.f3.params.toList.length :=
  ⟨rfl, fun H ds h => match ds, h with | [_, _], _ => rfl⟩

/-- The door's own heap meets the condition. -/
theorem door_met (os : Os) (args : Array Value) : laidMetH Tryz.prog Rows.deoptFramesRow.laid ((World.doorLaid Tryz.prog 400 os).forCall (fun _ _ => 0) ⟨#[], args, []⟩).memory :=
  laidMetH_of_parts3 (fuel := 8) (laidMet_of_run' 8 (by kernel_rfl) (by kernel_rfl)) (by kernel_rfl) (by kernel_rfl)

set_option maxRecDepth 100000 in
theorem lifted (os : Os) (started : os.Started) (H : Type) (enc : TypeId × Value → H) :
    ReturnsInHanded {} Tryz.checked os 3 .any (fun w args => (Rows.deoptFramesSpec.pre enc Tryz.prog Tryz.f3 [] false w args ∧ laidMetH Tryz.prog Rows.deoptFramesRow.laid w) ∧ sizedMet enc Tryz.prog Tryz.f3 (OpenSpec.ofChange Rows.deoptFramesSpec) false w args)
      (Rows.deoptFramesSpec.post enc Tryz.prog Tryz.f3 false true false false) := by
  refine returnsInHanded_of_change_and (C := Tryz.checked) (X := fun w _ => laidMetH Tryz.prog Rows.deoptFramesRow.laid w) (fun _ _ _ hh h => h.of_heap hh) own started (by kernel_rfl) Tryz.func3
    (ChangeSpec.witness_shaped (enc := enc) (C := Tryz.checked) (os := os) (X := fun w _ => laidMetH Tryz.prog Rows.deoptFramesRow.laid w) false (World.doorLaid Tryz.prog 400 os) #[.agg #[.int .i64 0, .slice none 0 0], .slice none 0 0] 8 rfl (World.shaped_of_RefB (by kernel_rfl) (by kernel_rfl)) (by kernel_rfl) (by kernel_rfl) (by kernel_rfl) (door_met os _)) ?_
  intro W base args ds gs before hval hW _ hwt _ _
  refine law_contract runs specFrames laidOut (by kernel_rfl) (tb := 4) (by kernel_rfl) Tryz.underlying4 (ArgsOf.cons readsExit (by kernel_rfl) (ArgsOf.cons readsVals (by kernel_rfl) ArgsOf.nil)) ?_ W base args ds gs before hval hW hwt
  rintro l ⟨x, _, _, rfl, y, _, _, rfl, rfl⟩
  exact frames_ok (fun _ _ h => h) x.pc x.slots.ok y.ok

theorem frames_said : Rows.DeoptFramesSaid :=
  OpenClaim.holds_of_wide 3 Tryz.f3 rfl rfl rfl rfl rfl rfl rfl ⟨rfl, rfl, rfl, rfl, rfl⟩ rfl rfl rfl rfl rfl (by kernel_rfl) Tryz.func3 (by kernel_rfl)
    (of_decide_eq_true (by kernel_rfl)) (by unfold Func.isWrapper; first | (rw [if_pos (by decide +kernel)]; kernel_rfl) | (rw [if_neg (by decide +kernel)]; exact ⟨rfl, rfl⟩))
    (fun os started H enc _ => lifted os started H enc)

theorem frames_holds : Rows.DeoptFramesCardSaid :=
  Claim7.holds_tied_plain_at .later [] [.data, .data, .data] true (true, "35e4d72cf1dfa68d26851a3722092f17c0381fe85cc51ab596fede4e6eab2fc7") false
    frames_said (fun _ h => by cases h) (by kernel_rfl) (fun _ h => by cases h) deoptFrames_row_tie rfl ⟨rfl, rfl⟩ (by kernel_rfl) rfl
    (fun f fn hf hfn => by
      obtain rfl : f = 3 := Option.some.inj ((show Tryz.prog.funcNamed "gearbox/gearboxlaw23.DeoptFrames" = some 3 by kernel_rfl).symm.trans hf) |>.symm
      obtain rfl : fn = Tryz.f3 := (Option.some.inj (Tryz.func3.symm.trans hfn)).symm
      exact ⟨by kernel_rfl, fun j t ht => by
        rw [Tryz.params3] at ht
        have hm : t ∈ [24, 25] := by simpa using Array.mem_of_getElem? ht
        have hall : ([24, 25].all fun u => !Tryz.prog.wantsStandIn u) = true := by kernel_rfl
        exact (show Tryz.prog.wantsStandIn t = false by simpa using List.all_eq_true.1 hall t hm)⟩)
    (by kernel_rfl)
#print axioms frames_holds
end Go.Proofs.YtmghegmjiagkgaaGreatDoor
