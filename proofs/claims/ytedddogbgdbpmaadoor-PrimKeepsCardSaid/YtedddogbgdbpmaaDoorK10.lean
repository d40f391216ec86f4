import Derived.Test.YtedddogbgdbpmaaDoorRows
import Derived.Test.YtedddogbgdbpmaaDoorBld2
set_option maxRecDepth 100000
set_option maxHeartbeats 1000000
set_option linter.unusedVariables false
set_option linter.unusedSimpArgs false
namespace Go.Proofs.YtedddogbgdbpmaaDoor
open Go.Shelf Go.RowKit
theorem zch (b o : Nat) (w : World) (h0 : w.cell? ⟨b, o, none⟩ = some (.pointer (some ⟨b, o, none⟩))) :
  Calls Tryd.prog 82 #[.pointer (some ⟨b, o, none⟩)] w fun e w' => e = .returned (.tuple #[]) ∧ w' = w := by
 obtain ⟨j, hj, _⟩ := Option.map_eq_some_iff.1 (show (Tryd.prog.info? 121).map (·.size) = some 2 by kernel_rfl)
 have t121 := Tryd.underlying121; have a121 := Tryd.isAgg121; have z121 := Tryd.sizeOf121; have v121 := Tryd.zeroValue121; have u121 := run_underlying Tryd.underlying121
 have t118 := Tryd.underlying118; have a118 := Tryd.isAgg118; have z118 := Tryd.sizeOf118; have v118 := Tryd.zeroValue118; have u118 := run_underlying Tryd.underlying118
 have t4 := Tryd.underlying4; have a4 := Tryd.isAgg4; have z4 := Tryd.sizeOf4; have v4 := Tryd.zeroValue4; have u4 := run_underlying Tryd.underlying4
 go_enter Tryd.func82, Tryd.ntmps82
 go_wp2
 rw [Lib.run_neq_ptr_same w _ Tryd.underlying118 hj]
 go_wp2
 go_end0
 exact ⟨rfl, rfl⟩
theorem zb7 (b o n : Nat) (e : TypeId) (w : World) (h0 : w.cell? ⟨b, o, none⟩ = some (.pointer none)) (hsh : w.shape? b = some (e, n)) (ho : o < n) (hlies : liesAt Tryd.prog Tryd.prog.depth e (n / Tryd.prog.cellsOf e) o 121 1 = true) (hfz : w.frozen? ⟨b, o, none⟩ = false) :
  Calls Tryd.prog 82 #[.pointer (some ⟨b, o, none⟩)] w fun e w' => e = .returned (.tuple #[]) ∧ w' = w.setCell ⟨b, o, none⟩ (.pointer (some ⟨b, o, none⟩)) := by
 obtain ⟨j, hj, hjs⟩ := Option.map_eq_some_iff.1 (show (Tryd.prog.info? 121).map (·.size) = some 2 by kernel_rfl)
 have t121 := Tryd.underlying121; have a121 := Tryd.isAgg121; have z121 := Tryd.sizeOf121; have v121 := Tryd.zeroValue121; have u121 := run_underlying Tryd.underlying121
 have t118 := Tryd.underlying118; have a118 := Tryd.isAgg118; have z118 := Tryd.sizeOf118; have v118 := Tryd.zeroValue118; have u118 := run_underlying Tryd.underlying118
 have t4 := Tryd.underlying4; have a4 := Tryd.isAgg4; have z4 := Tryd.sizeOf4; have v4 := Tryd.zeroValue4; have u4 := run_underlying Tryd.underlying4
 have t136 := Tryd.underlying136; have a136 := Tryd.isAgg136; have z136 := Tryd.sizeOf136; have v136 := Tryd.zeroValue136; have u136 := run_underlying Tryd.underlying136
 go_enter Tryd.func82, Tryd.ntmps82
 go_wp2
 rw [Lib.run_to_unsafe w ⟨b, o, none⟩ Tryd.underlying118 Tryd.underlying136 hj (by rw [hjs]; decide) hsh ho]
 simp only [Result.andThen]
 rw [Oper.upon_value]
 go_wp2
 rw [run_callFunc_extern Tryd.func85 (by kernel_rfl) (by kernel_rfl) (by kernel_rfl) (e := Extern.AbiNoEscape.same) (by kernel_rfl)]
 rw [Lib.run_noEscape]
 simp only [Result.andThen]
 rw [Oper.upon_value]
 go_wp2
 rw [Lib.run_from_unsafe w ⟨b, o, none⟩ Tryd.underlying136 Tryd.underlying118 hj hsh hlies]
 simp only [Result.andThen]
 rw [Oper.upon_value]
 go_wp2
 go_end0
 exact ⟨rfl, rfl⟩
theorem checkFacts : CheckFacts Tryd.prog 82 121 := ⟨zch, zb7⟩
end Go.Proofs.YtedddogbgdbpmaaDoor

