/-
  DeoptEnters: what Enter tells at any entry is what the reference tells, in new memory, for every input; with what it lists tied to the program's text.
-/
import Derived.Test.YtmghegmjiagkgaaGreatDoorYDFrames
import Derived.Test.YtmghegmjiagkgaaGreatDoorDu
namespace Go.Proofs.YtmghegmjiagkgaaGreatDoor
open Go.EX Go.ChangeShapes Go.WideShapes Go.ChangeAt Go.RowKit
set_option linter.unusedVariables false

structure RegFn1 where
  regs : Int
  entries : Sl tEntry
  insns : Sl tRegIns
  exits : Sl tExit

def tRegFn : Ty RegFn1 := ⟨4, true, fun e => [.val (.int .i64 e.regs), e.entries.iv, e.insns.iv, e.exits.iv], fun e => (tInt .i64).wf e.regs, fun _ => rfl⟩

theorem readsInts : ReadsAs Tryz.prog 71 (tSl (tInt .i64)) := readsSl Tryz.underlying71 (readsInt Tryz.underlying3) (by kernel_rfl) (by decide) (of_decide_eq_true (by kernel_rfl))

theorem readsEntry : ReadsAs Tryz.prog 73 tEntry :=
  readsVia (σ := tEntry) (readsStruct (τ := tPair (tInt .i64) (tPair (tInt .i64) (tPair (tSl (tInt .i64)) tNil))) Tryz.underlying73 (readsCons (readsInt Tryz.underlying3) rfl (by kernel_rfl) (readsCons (readsInt Tryz.underlying3) rfl (by kernel_rfl) (readsCons readsInts rfl (by kernel_rfl) (readsNil _)))) (by kernel_rfl))
    (fun (x : Int × Int × Sl (tInt .i64) × Unit) => Go.EX.Entry.mk x.1 x.2.1 x.2.2.1) (fun _ => rfl) (fun _ h => ⟨h.1, h.2.1⟩) rfl

theorem readsEntries : ReadsAs Tryz.prog 56 (tSl tEntry) := readsSl Tryz.underlying56 readsEntry (by kernel_rfl) (by decide) (of_decide_eq_true (by kernel_rfl))

theorem readsRegIns : ReadsAs Tryz.prog 157 tRegIns :=
  readsVia (σ := tRegIns) (readsStruct (τ := tPair (tInt .u8) (tPair (tInt .i64) (tPair (tSl (tInt .i64)) (tPair (tInt .i64) (tPair (tInt .u8) (tPair (tInt .i64) tNil)))))) Tryz.underlying157
    (readsCons (readsInt Tryz.underlying155) rfl (by kernel_rfl) (readsCons (readsInt Tryz.underlying3) rfl (by kernel_rfl) (readsCons readsInts rfl (by kernel_rfl) (readsCons (readsInt Tryz.underlying2) rfl (by kernel_rfl) (readsCons (readsInt Tryz.underlying65) rfl (by kernel_rfl) (readsCons (readsInt Tryz.underlying3) rfl (by kernel_rfl) (readsNil _))))))) (by kernel_rfl))
    (fun (x : Int × Int × Sl (tInt .i64) × Int × Int × Int × Unit) => Go.EX.RegIns.mk x.1 x.2.1 x.2.2.1 x.2.2.2.1 x.2.2.2.2.1 x.2.2.2.2.2.1) (fun _ => rfl) (fun _ h => ⟨h.1, h.2.1, h.2.2.2.1, h.2.2.2.2.1, h.2.2.2.2.2.1⟩) rfl

theorem readsInsns : ReadsAs Tryz.prog 57 (tSl tRegIns) := readsSl Tryz.underlying57 readsRegIns (by kernel_rfl) (by decide) (of_decide_eq_true (by kernel_rfl))

theorem readsExits : ReadsAs Tryz.prog 58 (tSl tExit) := readsSl Tryz.underlying58 readsExit (by kernel_rfl) (by decide) (of_decide_eq_true (by kernel_rfl))

theorem readsRegFn : ReadsAs Tryz.prog 60 tRegFn :=
  readsVia (σ := tRegFn) (readsStruct (τ := tPair (tInt .i64) (tPair (tSl tEntry) (tPair (tSl tRegIns) (tPair (tSl tExit) tNil)))) Tryz.underlying60
    (readsCons (readsInt Tryz.underlying3) rfl (by kernel_rfl) (readsCons readsEntries rfl (by kernel_rfl) (readsCons readsInsns rfl (by kernel_rfl) (readsCons readsExits rfl (by kernel_rfl) (readsNil _))))) (by kernel_rfl))
    (fun (x : Int × Sl tEntry × Sl tRegIns × Sl tExit × Unit) => RegFn1.mk x.1 x.2.1 x.2.2.1 x.2.2.2.1) (fun _ => rfl) (fun _ h => h.1) rfl

theorem readsI : ReadsAs Tryz.prog 3 (tInt .i64) := readsInt Tryz.underlying3

theorem specEnters : LawSpec Rows.deoptEntersSpec Tryz.f4.params.toList.length :=
  ⟨rfl, fun H ds h => match ds, h with | [_, _, _], _ => rfl⟩

theorem door_metE (os : Os) (args : Array Value) : laidMetH Tryz.prog Rows.deoptEntersRow.laid ((World.doorLaid Tryz.prog 400 os).forCall (fun _ _ => 0) ⟨#[], args, []⟩).memory :=
  laidMetH_of_parts3 (fuel := 8) (laidMet_of_run' 8 (by kernel_rfl) (by kernel_rfl)) (by kernel_rfl) (by kernel_rfl)

set_option maxRecDepth 100000 in
theorem liftedE (os : Os) (started : os.Started) (H : Type) (enc : TypeId × Value → H) :
    ReturnsInHanded {} Tryz.checked os 4 .any (fun w args => (Rows.deoptEntersSpec.pre enc Tryz.prog Tryz.f4 [] false w args ∧ laidMetH Tryz.prog Rows.deoptEntersRow.laid w) ∧ sizedMet enc Tryz.prog Tryz.f4 (OpenSpec.ofChange Rows.deoptEntersSpec) false w args)
      (Rows.deoptEntersSpec.post enc Tryz.prog Tryz.f4 false true false false) := by
  refine returnsInHanded_of_change_and (C := Tryz.checked) (X := fun w _ => laidMetH Tryz.prog Rows.deoptEntersRow.laid w) (fun _ _ _ hh h => h.of_heap hh) own started (by kernel_rfl) Tryz.func4
    (ChangeSpec.witness_shaped (enc := enc) (C := Tryz.checked) (os := os) (X := fun w _ => laidMetH Tryz.prog Rows.deoptEntersRow.laid w) false (World.doorLaid Tryz.prog 400 os) #[.agg #[.int .i64 0, .slice none 0 0, .slice none 0 0, .slice none 0 0], .int .i64 0, .slice none 0 0] 8 rfl (World.shaped_of_RefB (by kernel_rfl) (by kernel_rfl)) (by kernel_rfl) (by kernel_rfl) (by kernel_rfl) (door_metE os _)) ?_
  intro W base args ds gs before hval hW _ hwt _ _
  refine law_contract runs specEnters laidOut (by kernel_rfl) (tb := 4) (by kernel_rfl) Tryz.underlying4 (ArgsOf.cons readsRegFn (by kernel_rfl) (ArgsOf.cons readsI (by kernel_rfl) (ArgsOf.cons readsVals (by kernel_rfl) ArgsOf.nil))) ?_ W base args ds gs before hval hW hwt
  rintro l ⟨x, _, _, rfl, i, _, _, rfl, y, _, _, rfl, rfl⟩
  exact enters_ok (fun _ _ h => h) x.regs i x.entries.ok x.insns.ok x.exits.ok y.ok

theorem enters_said : Rows.DeoptEntersSaid :=
  OpenClaim.holds_of_wide 4 Tryz.f4 rfl rfl rfl rfl rfl rfl rfl ⟨rfl, rfl, rfl, rfl, rfl⟩ rfl rfl rfl rfl rfl (by kernel_rfl) Tryz.func4 (by kernel_rfl)
    (of_decide_eq_true (by kernel_rfl)) (by unfold Func.isWrapper; first | (rw [if_pos (by decide +kernel)]; kernel_rfl) | (rw [if_neg (by decide +kernel)]; exact ⟨rfl, rfl⟩))
    (fun os started H enc _ => liftedE os started H enc)

theorem enters_holds : Rows.DeoptEntersCardSaid :=
  Claim7.holds_tied_plain_at .later [] [.data, .data, .data] true (true, "35e4d72cf1dfa68d26851a3722092f17c0381fe85cc51ab596fede4e6eab2fc7") false
    enters_said (fun _ h => by cases h) (by kernel_rfl) (fun _ h => by cases h) deoptEnters_row_tie rfl ⟨rfl, rfl⟩ (by kernel_rfl) rfl
    (fun f fn hf hfn => by
      obtain rfl : f = 4 := Option.some.inj ((show Tryz.prog.funcNamed "gearbox/gearboxlaw23.DeoptEnters" = some 4 by kernel_rfl).symm.trans hf) |>.symm
      obtain rfl : fn = Tryz.f4 := (Option.some.inj (Tryz.func4.symm.trans hfn)).symm
      exact ⟨by kernel_rfl, fun j t ht => by
        rw [Tryz.params4] at ht
        have hm : t ∈ [60, 3, 25] := by simpa using Array.mem_of_getElem? ht
        have hall : ([60, 3, 25].all fun u => !Tryz.prog.wantsStandIn u) = true := by kernel_rfl
        exact (show Tryz.prog.wantsStandIn t = false by simpa using List.all_eq_true.1 hall t hm)⟩)
    (by kernel_rfl)
#print axioms enters_holds
end Go.Proofs.YtmghegmjiagkgaaGreatDoor
