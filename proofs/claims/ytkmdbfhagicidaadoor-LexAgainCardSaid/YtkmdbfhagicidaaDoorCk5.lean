import Derived.Test.YtkmdbfhagicidaaDoorRows
import Derived.Test.YtkmdbfhagicidaaDoorBld2
set_option maxRecDepth 100000
set_option maxHeartbeats 1000000
set_option linter.unusedVariables false
set_option linter.unusedSimpArgs false
namespace Go.Proofs.YtkmdbfhagicidaaDoor
open Go.Shelf Go.RowKit
theorem zbt (b o : Nat) (w : World) (h0 : w.cell? ⟨b, o, none⟩ = some (.pointer (some ⟨b, o, none⟩))) :
  Calls Tryd.prog 38 #[.pointer (some ⟨b, o, none⟩)] w fun e w' => e = .returned (.tuple #[]) ∧ w' = w := by
 obtain ⟨j, hj, _⟩ := Option.map_eq_some_iff.1 (show (Tryd.prog.info? 57).map (·.size) = some 2 by kernel_rfl)
 have t57 := Tryd.underlying57; have a57 := Tryd.isAgg57; have z57 := Tryd.sizeOf57; have v57 := Tryd.zeroValue57; have u57 := run_underlying Tryd.underlying57
 have t55 := Tryd.underlying55; have a55 := Tryd.isAgg55; have z55 := Tryd.sizeOf55; have v55 := Tryd.zeroValue55; have u55 := run_underlying Tryd.underlying55
 have t4 := Tryd.underlying4; have a4 := Tryd.isAgg4; have z4 := Tryd.sizeOf4; have v4 := Tryd.zeroValue4; have u4 := run_underlying Tryd.underlying4
 go_enter Tryd.func38, Tryd.ntmps38
 go_wp2
 rw [Lib.run_neq_ptr_same w _ Tryd.underlying55 hj]
 go_wp2
 go_end0
 exact ⟨rfl, rfl⟩
theorem zbr (b o n : Nat) (e : TypeId) (w : World) (h0 : w.cell? ⟨b, o, none⟩ = some (.pointer none)) (hsh : w.shape? b = some (e, n)) (ho : o < n) (hlies : liesAt Tryd.prog Tryd.prog.depth e (n / Tryd.prog.cellsOf e) o 57 1 = true) (hfz : w.frozen? ⟨b, o, none⟩ = false) :
  Calls Tryd.prog 38 #[.pointer (some ⟨b, o, none⟩)] w fun e w' => e = .returned (.tuple #[]) ∧ w' = w.setCell ⟨b, o, none⟩ (.pointer (some ⟨b, o, none⟩)) := by
 obtain ⟨j, hj, hjs⟩ := Option.map_eq_some_iff.1 (show (Tryd.prog.info? 57).map (·.size) = some 2 by kernel_rfl)
 have t57 := Tryd.underlying57; have a57 := Tryd.isAgg57; have z57 := Tryd.sizeOf57; have v57 := Tryd.zeroValue57; have u57 := run_underlying Tryd.underlying57
 have t55 := Tryd.underlying55; have a55 := Tryd.isAgg55; have z55 := Tryd.sizeOf55; have v55 := Tryd.zeroValue55; have u55 := run_underlying Tryd.underlying55
 have t4 := Tryd.underlying4; have a4 := Tryd.isAgg4; have z4 := Tryd.sizeOf4; have v4 := Tryd.zeroValue4; have u4 := run_underlying Tryd.underlying4
 have t79 := Tryd.underlying79; have a79 := Tryd.isAgg79; have z79 := Tryd.sizeOf79; have v79 := Tryd.zeroValue79; have u79 := run_underlying Tryd.underlying79
 go_enter Tryd.func38, Tryd.ntmps38
 go_wp2
 rw [Lib.run_to_unsafe w ⟨b, o, none⟩ Tryd.underlying55 Tryd.underlying79 hj (by rw [hjs]; decide) hsh ho]
 simp only [Result.andThen]
 rw [Oper.upon_value]
 go_wp2
 rw [run_callFunc_extern Tryd.func48 (by kernel_rfl) (by kernel_rfl) (by kernel_rfl) (e := Extern.AbiNoEscape.same) (by kernel_rfl)]
 rw [Lib.run_noEscape]
 simp only [Result.andThen]
 rw [Oper.upon_value]
 go_wp2
 rw [Lib.run_from_unsafe w ⟨b, o, none⟩ Tryd.underlying79 Tryd.underlying55 hj hsh hlies]
 simp only [Result.andThen]
 rw [Oper.upon_value]
 go_wp2
 go_end0
 exact ⟨rfl, rfl⟩
theorem checkFacts : CheckFacts Tryd.prog 38 57 := ⟨zbt, zbr⟩
end Go.Proofs.YtkmdbfhagicidaaDoor

