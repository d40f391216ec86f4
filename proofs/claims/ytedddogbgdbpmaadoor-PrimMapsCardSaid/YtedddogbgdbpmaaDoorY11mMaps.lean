import Derived.Test.YtedddogbgdbpmaaDoorK9
import Derived.Test.YtedddogbgdbpmaaDoorTie
import Derived.Test.YtedddogbgdbpmaaDoorCards
import Derived.ProofKit
import Derived.LaidMore
import Derived.OpenShut
import Derived.Stop.Joined
import Derived.JoinedOf
import Derived.SizedLaws
import Derived.SevenTiedAt
import Derived.Test.YtedddogbgdbpmaaDoorK13
namespace Go.Proofs.YtedddogbgdbpmaaDoor
open Go.EX Go.ChangeShapes Go.WideShapes Go.ChangeAt Go.RowKit
set_option linter.unusedVariables false
theorem own : ownKnob Tryd.prog.godebug = none := by kernel_rfl
theorem laidOut : laidOutB Tryd.prog = true := by kernel_rfl
theorem door_met (os : Os) (args : Array Value) : laidMetH Tryd.prog Rows.primMapsRow.laid ((World.doorLaid Tryd.prog 400 os).forCall (fun _ _ => 0) ⟨#[], args, []⟩).memory :=
 laidMetH_of_parts3 (fuel := 8) (laidMet_of_run' 8 (by kernel_rfl) (by kernel_rfl)) (by kernel_rfl) (by kernel_rfl)
theorem runsL : Runs Tryd.prog (Names.of Tryd.prog num) code11 noExt :=
 ⟨by kernel_rfl, fnsL, zin, nz, zb5, fun _ _ _ _ _ _ => Iff.rfl, fun _ _ _ h => h, fun _ h1 h2 => ⟨h1, h2⟩⟩
theorem runsM : Runs Tryd.prog (Names.of Tryd.prog num) code11m extM :=
 ⟨by kernel_rfl, fns, zd6 (zd5 (zmy runsL).fn) (zd8 (zmy runsL).fn), nz, zb6, fun _ _ _ _ _ _ => Iff.rfl, fun _ _ _ h => h, fun _ h1 h2 => ⟨h1, h2⟩⟩
theorem readsKeys : ReadsAs Tryd.prog 22 (tSl (tInt .i8)) := readsSl Tryd.underlying22 (readsInt Tryd.underlying35) (by kernel_rfl) (by decide) (of_decide_eq_true (by kernel_rfl))
theorem specMaps : LawSpec Rows.primMapsSpec Tryd.f3.params.toList.length :=
 ⟨rfl, fun H ds h => match ds, h with | [_, _, _], _ => rfl⟩
set_option maxRecDepth 100000 in
theorem maps_lifted (os : Os) (started : os.Started) (H : Type) (enc : TypeId × Value → H) :
  ReturnsInHanded {} Tryd.checked os 3 .any (fun w args => (Rows.primMapsSpec.pre enc Tryd.prog Tryd.f3 [] false w args ∧ laidMetH Tryd.prog Rows.primMapsRow.laid w) ∧ sizedMet enc Tryd.prog Tryd.f3 (OpenSpec.ofChange Rows.primMapsSpec) false w args)
   (Rows.primMapsSpec.post enc Tryd.prog Tryd.f3 false true false false) := by
 refine returnsInHanded_of_change_and (C := Tryd.checked) (X := fun w _ => laidMetH Tryd.prog Rows.primMapsRow.laid w) (fun _ _ _ hh h => h.of_heap hh) own started (by kernel_rfl) Tryd.func3
  (ChangeSpec.witness_shaped (enc := enc) (C := Tryd.checked) (os := os) (X := fun w _ => laidMetH Tryd.prog Rows.primMapsRow.laid w) false (World.doorLaid Tryd.prog 400 os) #[.slice none 0 0, .int .i64 0, .int .i64 0] 8 rfl (World.shaped_of_RefB (by kernel_rfl) (by kernel_rfl)) (by kernel_rfl) (by kernel_rfl) (by kernel_rfl) (door_met os _)) ?_
 intro W base args ds gs before hval hW _ hwt _ _
 refine zgq runsM specMaps laidOut (by kernel_rfl) (tb := 4) (by kernel_rfl) Tryd.underlying4 (ArgsOf.cons readsKeys (by kernel_rfl) (ArgsOf.cons (readsInt Tryd.underlying2) (by kernel_rfl) (ArgsOf.cons (readsInt Tryd.underlying2) (by kernel_rfl) ArgsOf.nil))) ?_ W base args ds gs before hval hW hwt
 rintro l ⟨x, _, _, rfl, i, _, hi, rfl, j, _, hj, rfl, rfl⟩
 exact zkh x.ok i j hi hj
theorem maps_said : Rows.PrimMapsSaid :=
 OpenClaim.holds_of_wide 3 Tryd.f3 rfl rfl rfl rfl rfl rfl rfl ⟨rfl, rfl, rfl, rfl, rfl⟩ rfl rfl rfl rfl rfl (by kernel_rfl) Tryd.func3 (by kernel_rfl)
  (of_decide_eq_true (by kernel_rfl)) (by unfold Func.isWrapper; first | (rw [if_pos (by decide +kernel)]; kernel_rfl) | (rw [if_neg (by decide +kernel)]; exact ⟨rfl, rfl⟩))
  (fun os started H enc _ => maps_lifted os started H enc)
theorem maps_holds : Rows.PrimMapsCardSaid :=
 Claim7.holds_tied_plain_at .later [] [.data, .data, .data] true (true, "82e1a04a533cce72eca55e4692a70d534ca31942205c9a459704e4a3a2400854") false
  maps_said (fun _ h => by cases h) (by kernel_rfl) (fun _ h => by cases h) primMaps_row_tie rfl ⟨rfl, rfl⟩ (by kernel_rfl) rfl
  (fun f fn hf hfn => by
   obtain rfl : f = 3 := Option.some.inj ((show Tryd.prog.funcNamed "gearbox/gearboxlaw11.PrimMaps" = some 3 by kernel_rfl).symm.trans hf) |>.symm
   obtain rfl : fn = Tryd.f3 := (Option.some.inj (Tryd.func3.symm.trans hfn)).symm
   exact ⟨by kernel_rfl, fun j t ht => by
    rw [Tryd.params3] at ht
    have hm : t ∈ [22, 2] := by simpa using Array.mem_of_getElem? ht
    have hall : ([22, 2].all fun u => !Tryd.prog.wantsStandIn u) = true := by kernel_rfl
    exact (show Tryd.prog.wantsStandIn t = false by simpa using List.all_eq_true.1 hall t hm)⟩)
  (by kernel_rfl)
#print axioms maps_holds
end Go.Proofs.YtedddogbgdbpmaaDoor

