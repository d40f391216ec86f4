import Derived.Test.YtnmhohfmonlfoaaGreatDoorRows
import Derived.Test.YtnmhohfmonlfoaaGreatDoorBld2
set_option maxRecDepth 100000
set_option maxHeartbeats 1000000
set_option linter.unusedVariables false
set_option linter.unusedSimpArgs false
namespace Go.Proofs.YtnmhohfmonlfoaaGreatDoor
open Go.Shelf Go.RowKit
theorem zb6 (b o : Nat) (w : World) (h0 : w.cell? ⟨b, o, none⟩ = some (.pointer (some ⟨b, o, none⟩))) :
  Calls Tryz.prog 245 #[.pointer (some ⟨b, o, none⟩)] w fun e w' => e = .returned (.tuple #[]) ∧ w' = w := by
 obtain ⟨j, hj, _⟩ := Option.map_eq_some_iff.1 (show (Tryz.prog.info? 309).map (·.size) = some 2 by kernel_rfl)
 have t309 := Tryz.underlying309; have a309 := Tryz.isAgg309; have z309 := Tryz.sizeOf309; have v309 := Tryz.zeroValue309; have u309 := run_underlying Tryz.underlying309
 have t307 := Tryz.underlying307; have a307 := Tryz.isAgg307; have z307 := Tryz.sizeOf307; have v307 := Tryz.zeroValue307; have u307 := run_underlying Tryz.underlying307
 have t4 := Tryz.underlying4; have a4 := Tryz.isAgg4; have z4 := Tryz.sizeOf4; have v4 := Tryz.zeroValue4; have u4 := run_underlying Tryz.underlying4
 go_enter Tryz.func245, Tryz.ntmps245
 go_wp2
 rw [Lib.run_neq_ptr_same w _ Tryz.underlying307 hj]
 go_wp2
 go_end0
 exact ⟨rfl, rfl⟩
theorem zb0 (b o n : Nat) (e : TypeId) (w : World) (h0 : w.cell? ⟨b, o, none⟩ = some (.pointer none)) (hsh : w.shape? b = some (e, n)) (ho : o < n) (hlies : liesAt Tryz.prog Tryz.prog.depth e (n / Tryz.prog.cellsOf e) o 309 1 = true) (hfz : w.frozen? ⟨b, o, none⟩ = false) :
  Calls Tryz.prog 245 #[.pointer (some ⟨b, o, none⟩)] w fun e w' => e = .returned (.tuple #[]) ∧ w' = w.setCell ⟨b, o, none⟩ (.pointer (some ⟨b, o, none⟩)) := by
 obtain ⟨j, hj, hjs⟩ := Option.map_eq_some_iff.1 (show (Tryz.prog.info? 309).map (·.size) = some 2 by kernel_rfl)
 have t309 := Tryz.underlying309; have a309 := Tryz.isAgg309; have z309 := Tryz.sizeOf309; have v309 := Tryz.zeroValue309; have u309 := run_underlying Tryz.underlying309
 have t307 := Tryz.underlying307; have a307 := Tryz.isAgg307; have z307 := Tryz.sizeOf307; have v307 := Tryz.zeroValue307; have u307 := run_underlying Tryz.underlying307
 have t4 := Tryz.underlying4; have a4 := Tryz.isAgg4; have z4 := Tryz.sizeOf4; have v4 := Tryz.zeroValue4; have u4 := run_underlying Tryz.underlying4
 have t326 := Tryz.underlying326; have a326 := Tryz.isAgg326; have z326 := Tryz.sizeOf326; have v326 := Tryz.zeroValue326; have u326 := run_underlying Tryz.underlying326
 go_enter Tryz.func245, Tryz.ntmps245
 go_wp2
 rw [Lib.run_to_unsafe w ⟨b, o, none⟩ Tryz.underlying307 Tryz.underlying326 hj (by rw [hjs]; decide) hsh ho]
 simp only [Result.andThen]
 rw [Oper.upon_value]
 go_wp2
 rw [run_callFunc_extern Tryz.func247 (by kernel_rfl) (by kernel_rfl) (by kernel_rfl) (e := Extern.AbiNoEscape.same) (by kernel_rfl)]
 rw [Lib.run_noEscape]
 simp only [Result.andThen]
 rw [Oper.upon_value]
 go_wp2
 rw [Lib.run_from_unsafe w ⟨b, o, none⟩ Tryz.underlying326 Tryz.underlying307 hj hsh hlies]
 simp only [Result.andThen]
 rw [Oper.upon_value]
 go_wp2
 go_end0
 exact ⟨rfl, rfl⟩
theorem checkFacts : CheckFacts Tryz.prog 245 309 := ⟨zb6, zb0⟩
end Go.Proofs.YtnmhohfmonlfoaaGreatDoor

