import Derived.Test.YtbomedbbgfcncaaDoorRows
import Derived.Test.YtbomedbbgfcncaaDoorBld2
set_option maxRecDepth 100000
set_option maxHeartbeats 1000000
set_option linter.unusedVariables false
set_option linter.unusedSimpArgs false
namespace Go.Proofs.YtbomedbbgfcncaaDoor
open Go.Shelf Go.RowKit
theorem zbx (b o : Nat) (w : World) (h0 : w.cell? ⟨b, o, none⟩ = some (.pointer (some ⟨b, o, none⟩))) :
  Calls Tryd.prog 52 #[.pointer (some ⟨b, o, none⟩)] w fun e w' => e = .returned (.tuple #[]) ∧ w' = w := by
 obtain ⟨j, hj, _⟩ := Option.map_eq_some_iff.1 (show (Tryd.prog.info? 48).map (·.size) = some 2 by kernel_rfl)
 have t48 := Tryd.underlying48; have a48 := Tryd.isAgg48; have z48 := Tryd.sizeOf48; have v48 := Tryd.zeroValue48; have u48 := run_underlying Tryd.underlying48
 have t45 := Tryd.underlying45; have a45 := Tryd.isAgg45; have z45 := Tryd.sizeOf45; have v45 := Tryd.zeroValue45; have u45 := run_underlying Tryd.underlying45
 have t4 := Tryd.underlying4; have a4 := Tryd.isAgg4; have z4 := Tryd.sizeOf4; have v4 := Tryd.zeroValue4; have u4 := run_underlying Tryd.underlying4
 go_enter Tryd.func52, Tryd.ntmps52
 go_wp2
 rw [Lib.run_neq_ptr_same w _ Tryd.underlying45 hj]
 go_wp2
 go_end0
 exact ⟨rfl, rfl⟩
theorem zbt (b o n : Nat) (e : TypeId) (w : World) (h0 : w.cell? ⟨b, o, none⟩ = some (.pointer none)) (hsh : w.shape? b = some (e, n)) (ho : o < n) (hlies : liesAt Tryd.prog Tryd.prog.depth e (n / Tryd.prog.cellsOf e) o 48 1 = true) (hfz : w.frozen? ⟨b, o, none⟩ = false) :
  Calls Tryd.prog 52 #[.pointer (some ⟨b, o, none⟩)] w fun e w' => e = .returned (.tuple #[]) ∧ w' = w.setCell ⟨b, o, none⟩ (.pointer (some ⟨b, o, none⟩)) := by
 obtain ⟨j, hj, hjs⟩ := Option.map_eq_some_iff.1 (show (Tryd.prog.info? 48).map (·.size) = some 2 by kernel_rfl)
 have t48 := Tryd.underlying48; have a48 := Tryd.isAgg48; have z48 := Tryd.sizeOf48; have v48 := Tryd.zeroValue48; have u48 := run_underlying Tryd.underlying48
 have t45 := Tryd.underlying45; have a45 := Tryd.isAgg45; have z45 := Tryd.sizeOf45; have v45 := Tryd.zeroValue45; have u45 := run_underlying Tryd.underlying45
 have t4 := Tryd.underlying4; have a4 := Tryd.isAgg4; have z4 := Tryd.sizeOf4; have v4 := Tryd.zeroValue4; have u4 := run_underlying Tryd.underlying4
 have t100 := Tryd.underlying100; have a100 := Tryd.isAgg100; have z100 := Tryd.sizeOf100; have v100 := Tryd.zeroValue100; have u100 := run_underlying Tryd.underlying100
 go_enter Tryd.func52, Tryd.ntmps52
 go_wp2
 rw [Lib.run_to_unsafe w ⟨b, o, none⟩ Tryd.underlying45 Tryd.underlying100 hj (by rw [hjs]; decide) hsh ho]
 simp only [Result.andThen]
 rw [Oper.upon_value]
 go_wp2
 rw [run_callFunc_extern Tryd.func58 (by kernel_rfl) (by kernel_rfl) (by kernel_rfl) (e := Extern.AbiNoEscape.same) (by kernel_rfl)]
 rw [Lib.run_noEscape]
 simp only [Result.andThen]
 rw [Oper.upon_value]
 go_wp2
 rw [Lib.run_from_unsafe w ⟨b, o, none⟩ Tryd.underlying100 Tryd.underlying45 hj hsh hlies]
 simp only [Result.andThen]
 rw [Oper.upon_value]
 go_wp2
 go_end0
 exact ⟨rfl, rfl⟩
theorem checkFacts : CheckFacts Tryd.prog 52 48 := ⟨zbx, zbt⟩
end Go.Proofs.YtbomedbbgfcncaaDoor

