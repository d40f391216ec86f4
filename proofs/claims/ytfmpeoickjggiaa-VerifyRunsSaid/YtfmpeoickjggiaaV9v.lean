/-
  EX: law 09: VerifyRuns: what an instruction does. Written by a program (genruns.py).
-/
import Derived.Test.YtfmpeoickjggiaaV9u
set_option linter.unusedVariables false
set_option linter.unusedSimpArgs false
namespace Go.EX

set_option maxRecDepth 100000 in
theorem sw1 (cv tv : IV) (f : Fn) (pc i : Nat) (a d c : Int) (hpc : pc ≤ 1000000) (hd : 0 ≤ d ∧ d ≤ 256) :
    den code9 (extInsert 766) (.seq v9SW v9E) ⟨0, vEnv cv tv pc d i ++ [(13, .optr 1 0), (14, .imm (.val (.int .u8 c))), (93, avb false)], vMemI f ⟨1, a⟩⟩ = some (.normal, ⟨0, vEnv cv tv ((pc : Int) + 1) (d + 1) i, vMemI f ⟨1, a⟩⟩) := by
  have e0 : IntKind.wrap .i64 ((pc : Int) + 1) = (pc : Int) + 1 := wrapI64 (by omega) (by omega)
  have f0 : IntKind.wrap .i64 (d + 1) = d + 1 := wrapI64 (by omega) (by omega)
  simp only [vMemI, fnCells]
  simp -implicitDefEqProofs [v9SW, v9E, e0, f0]

set_option maxRecDepth 100000 in
theorem sw2 (cv tv : IV) (f : Fn) (pc i : Nat) (a d c : Int) (hpc : pc ≤ 1000000) (hd : 0 ≤ d ∧ d ≤ 256) :
    den code9 (extInsert 766) (.seq v9SW v9E) ⟨0, vEnv cv tv pc d i ++ [(13, .optr 1 0), (14, .imm (.val (.int .u8 c))), (93, avb false)], vMemI f ⟨2, a⟩⟩ = some (.normal, ⟨0, vEnv cv tv ((pc : Int) + 1) (d + 1) i, vMemI f ⟨2, a⟩⟩) := by
  have e0 : IntKind.wrap .i64 ((pc : Int) + 1) = (pc : Int) + 1 := wrapI64 (by omega) (by omega)
  have f0 : IntKind.wrap .i64 (d + 1) = d + 1 := wrapI64 (by omega) (by omega)
  simp only [vMemI, fnCells]
  simp -implicitDefEqProofs [v9SW, v9E, e0, f0]

set_option maxRecDepth 100000 in
theorem sw3 (cv tv : IV) (f : Fn) (pc i : Nat) (a d c : Int) (hpc : pc ≤ 1000000) (hd : 0 ≤ d ∧ d ≤ 256) :
    den code9 (extInsert 766) (.seq v9SW v9E) ⟨0, vEnv cv tv pc d i ++ [(13, .optr 1 0), (14, .imm (.val (.int .u8 c))), (93, avb false)], vMemI f ⟨3, a⟩⟩ = some (.normal, ⟨0, vEnv cv tv ((pc : Int) + 1) (d + 1) i, vMemI f ⟨3, a⟩⟩) := by
  have e0 : IntKind.wrap .i64 ((pc : Int) + 1) = (pc : Int) + 1 := wrapI64 (by omega) (by omega)
  have f0 : IntKind.wrap .i64 (d + 1) = d + 1 := wrapI64 (by omega) (by omega)
  simp only [vMemI, fnCells]
  simp -implicitDefEqProofs [v9SW, v9E, e0, f0]

set_option maxRecDepth 100000 in
theorem sw4 (cv tv : IV) (f : Fn) (pc i : Nat) (a d c : Int) (hpc : pc ≤ 1000000) (hd : 0 ≤ d ∧ d ≤ 256) :
    den code9 (extInsert 766) (.seq v9SW v9E) ⟨0, vEnv cv tv pc d i ++ [(13, .optr 1 0), (14, .imm (.val (.int .u8 c))), (93, avb false)], vMemI f ⟨4, a⟩⟩ = some (.normal, ⟨0, vEnv cv tv ((pc : Int) + 1) (d + 1) i, vMemI f ⟨4, a⟩⟩) := by
  have e0 : IntKind.wrap .i64 ((pc : Int) + 1) = (pc : Int) + 1 := wrapI64 (by omega) (by omega)
  have f0 : IntKind.wrap .i64 (d + 1) = d + 1 := wrapI64 (by omega) (by omega)
  simp only [vMemI, fnCells]
  simp -implicitDefEqProofs [v9SW, v9E, e0, f0]

set_option maxRecDepth 100000 in
theorem sw5 (cv tv : IV) (f : Fn) (pc i : Nat) (a d c : Int) (hpc : pc ≤ 1000000) (hd : 0 ≤ d ∧ d ≤ 256) :
    den code9 (extInsert 766) (.seq v9SW v9E) ⟨0, vEnv cv tv pc d i ++ [(13, .optr 1 0), (14, .imm (.val (.int .u8 c))), (93, avb false)], vMemI f ⟨5, a⟩⟩ = some (.normal, ⟨0, vEnv cv tv ((pc : Int) + 1) (d + 1) i, vMemI f ⟨5, a⟩⟩) := by
  have e0 : IntKind.wrap .i64 ((pc : Int) + 1) = (pc : Int) + 1 := wrapI64 (by omega) (by omega)
  have f0 : IntKind.wrap .i64 (d + 1) = d + 1 := wrapI64 (by omega) (by omega)
  simp only [vMemI, fnCells]
  simp -implicitDefEqProofs [v9SW, v9E, e0, f0]

set_option maxRecDepth 100000 in
theorem sw8 (cv tv : IV) (f : Fn) (pc i : Nat) (a d c : Int) (hpc : pc ≤ 1000000) (hd : 0 ≤ d ∧ d ≤ 256) :
    den code9 (extInsert 766) (.seq v9SW v9E) ⟨0, vEnv cv tv pc d i ++ [(13, .optr 1 0), (14, .imm (.val (.int .u8 c))), (93, avb false)], vMemI f ⟨8, a⟩⟩ = some (.normal, ⟨0, vEnv cv tv ((pc : Int) + 1) (d + 1) i, vMemI f ⟨8, a⟩⟩) := by
  have e0 : IntKind.wrap .i64 ((pc : Int) + 1) = (pc : Int) + 1 := wrapI64 (by omega) (by omega)
  have f0 : IntKind.wrap .i64 (d + 1) = d + 1 := wrapI64 (by omega) (by omega)
  simp only [vMemI, fnCells]
  simp -implicitDefEqProofs [v9SW, v9E, e0, f0]

set_option maxRecDepth 100000 in
theorem sw10 (cv tv : IV) (f : Fn) (pc i : Nat) (a d c : Int) (hpc : pc ≤ 1000000) (hd : 0 ≤ d ∧ d ≤ 256) :
    den code9 (extInsert 766) (.seq v9SW v9E) ⟨0, vEnv cv tv pc d i ++ [(13, .optr 1 0), (14, .imm (.val (.int .u8 c))), (93, avb false)], vMemI f ⟨10, a⟩⟩ = some (.normal, ⟨0, vEnv cv tv ((pc : Int) + 1) (d + 1) i, vMemI f ⟨10, a⟩⟩) := by
  have e0 : IntKind.wrap .i64 ((pc : Int) + 1) = (pc : Int) + 1 := wrapI64 (by omega) (by omega)
  have f0 : IntKind.wrap .i64 (d + 1) = d + 1 := wrapI64 (by omega) (by omega)
  simp only [vMemI, fnCells]
  simp -implicitDefEqProofs [v9SW, v9E, e0, f0]

set_option maxRecDepth 100000 in
theorem sw26 (cv tv : IV) (f : Fn) (pc i : Nat) (a d c : Int) (hpc : pc ≤ 1000000) (hd : 0 ≤ d ∧ d ≤ 256) :
    den code9 (extInsert 766) (.seq v9SW v9E) ⟨0, vEnv cv tv pc d i ++ [(13, .optr 1 0), (14, .imm (.val (.int .u8 c))), (93, avb false)], vMemI f ⟨26, a⟩⟩ = some (.normal, ⟨0, vEnv cv tv ((pc : Int) + 1) (d + 1) i, vMemI f ⟨26, a⟩⟩) := by
  have e0 : IntKind.wrap .i64 ((pc : Int) + 1) = (pc : Int) + 1 := wrapI64 (by omega) (by omega)
  have f0 : IntKind.wrap .i64 (d + 1) = d + 1 := wrapI64 (by omega) (by omega)
  simp only [vMemI, fnCells]
  simp -implicitDefEqProofs [v9SW, v9E, e0, f0]

set_option maxRecDepth 100000 in
theorem sw13 (cv tv : IV) (f : Fn) (pc i : Nat) (a d c : Int) (hpc : pc ≤ 1000000) (hd : 0 ≤ d ∧ d ≤ 256) :
    den code9 (extInsert 766) (.seq v9SW v9E) ⟨0, vEnv cv tv pc d i ++ [(13, .optr 1 0), (14, .imm (.val (.int .u8 c))), (93, avb false)], vMemI f ⟨13, a⟩⟩ = some (.normal, ⟨0, vEnv cv tv ((pc : Int) + 1) (d + 1) i, vMemI f ⟨13, a⟩⟩) := by
  have e0 : IntKind.wrap .i64 ((pc : Int) + 1) = (pc : Int) + 1 := wrapI64 (by omega) (by omega)
  have f0 : IntKind.wrap .i64 (d + 1) = d + 1 := wrapI64 (by omega) (by omega)
  simp only [vMemI, fnCells]
  simp -implicitDefEqProofs [v9SW, v9E, e0, f0]

set_option maxRecDepth 100000 in
theorem sw6 (cv tv : IV) (f : Fn) (pc i : Nat) (a d c : Int) (hpc : pc ≤ 1000000) (hd : 0 ≤ d ∧ d ≤ 256) :
    den code9 (extInsert 766) (.seq v9SW v9E) ⟨0, vEnv cv tv pc d i ++ [(13, .optr 1 0), (14, .imm (.val (.int .u8 c))), (93, avb false)], vMemI f ⟨6, a⟩⟩ = some (.normal, ⟨0, vEnv cv tv ((pc : Int) + 1) (d - 1) i, vMemI f ⟨6, a⟩⟩) := by
  have e0 : IntKind.wrap .i64 ((pc : Int) + 1) = (pc : Int) + 1 := wrapI64 (by omega) (by omega)
  have f0 : IntKind.wrap .i64 (d - 1) = d - 1 := wrapI64 (by omega) (by omega)
  simp only [vMemI, fnCells]
  simp -implicitDefEqProofs [v9SW, v9E, e0, f0]

set_option maxRecDepth 100000 in
theorem sw9 (cv tv : IV) (f : Fn) (pc i : Nat) (a d c : Int) (hpc : pc ≤ 1000000) (hd : 0 ≤ d ∧ d ≤ 256) :
    den code9 (extInsert 766) (.seq v9SW v9E) ⟨0, vEnv cv tv pc d i ++ [(13, .optr 1 0), (14, .imm (.val (.int .u8 c))), (93, avb false)], vMemI f ⟨9, a⟩⟩ = some (.normal, ⟨0, vEnv cv tv ((pc : Int) + 1) (d - 1) i, vMemI f ⟨9, a⟩⟩) := by
  have e0 : IntKind.wrap .i64 ((pc : Int) + 1) = (pc : Int) + 1 := wrapI64 (by omega) (by omega)
  have f0 : IntKind.wrap .i64 (d - 1) = d - 1 := wrapI64 (by omega) (by omega)
  simp only [vMemI, fnCells]
  simp -implicitDefEqProofs [v9SW, v9E, e0, f0]

set_option maxRecDepth 100000 in
theorem sw11 (cv tv : IV) (f : Fn) (pc i : Nat) (a d c : Int) (hpc : pc ≤ 1000000) (hd : 0 ≤ d ∧ d ≤ 256) :
    den code9 (extInsert 766) (.seq v9SW v9E) ⟨0, vEnv cv tv pc d i ++ [(13, .optr 1 0), (14, .imm (.val (.int .u8 c))), (93, avb false)], vMemI f ⟨11, a⟩⟩ = some (.normal, ⟨0, vEnv cv tv ((pc : Int) + 1) (d - 1) i, vMemI f ⟨11, a⟩⟩) := by
  have e0 : IntKind.wrap .i64 ((pc : Int) + 1) = (pc : Int) + 1 := wrapI64 (by omega) (by omega)
  have f0 : IntKind.wrap .i64 (d - 1) = d - 1 := wrapI64 (by omega) (by omega)
  simp only [vMemI, fnCells]
  simp -implicitDefEqProofs [v9SW, v9E, e0, f0]

set_option maxRecDepth 100000 in
theorem sw12 (cv tv : IV) (f : Fn) (pc i : Nat) (a d c : Int) (hpc : pc ≤ 1000000) (hd : 0 ≤ d ∧ d ≤ 256) :
    den code9 (extInsert 766) (.seq v9SW v9E) ⟨0, vEnv cv tv pc d i ++ [(13, .optr 1 0), (14, .imm (.val (.int .u8 c))), (93, avb false)], vMemI f ⟨12, a⟩⟩ = some (.normal, ⟨0, vEnv cv tv ((pc : Int) + 1) (d - 1) i, vMemI f ⟨12, a⟩⟩) := by
  have e0 : IntKind.wrap .i64 ((pc : Int) + 1) = (pc : Int) + 1 := wrapI64 (by omega) (by omega)
  have f0 : IntKind.wrap .i64 (d - 1) = d - 1 := wrapI64 (by omega) (by omega)
  simp only [vMemI, fnCells]
  simp -implicitDefEqProofs [v9SW, v9E, e0, f0]

set_option maxRecDepth 100000 in
theorem sw30 (cv tv : IV) (f : Fn) (pc i : Nat) (a d c : Int) (hpc : pc ≤ 1000000) (hd : 0 ≤ d ∧ d ≤ 256) :
    den code9 (extInsert 766) (.seq v9SW v9E) ⟨0, vEnv cv tv pc d i ++ [(13, .optr 1 0), (14, .imm (.val (.int .u8 c))), (93, avb false)], vMemI f ⟨30, a⟩⟩ = some (.normal, ⟨0, vEnv cv tv ((pc : Int) + 1) (d - 1) i, vMemI f ⟨30, a⟩⟩) := by
  have e0 : IntKind.wrap .i64 ((pc : Int) + 1) = (pc : Int) + 1 := wrapI64 (by omega) (by omega)
  have f0 : IntKind.wrap .i64 (d - 1) = d - 1 := wrapI64 (by omega) (by omega)
  simp only [vMemI, fnCells]
  simp -implicitDefEqProofs [v9SW, v9E, e0, f0]

set_option maxRecDepth 100000 in
theorem sw14 (cv tv : IV) (f : Fn) (pc i : Nat) (a d c : Int) (hpc : pc ≤ 1000000) (hd : 0 ≤ d ∧ d ≤ 256) :
    den code9 (extInsert 766) (.seq v9SW v9E) ⟨0, vEnv cv tv pc d i ++ [(13, .optr 1 0), (14, .imm (.val (.int .u8 c))), (93, avb false)], vMemI f ⟨14, a⟩⟩ = some (.normal, ⟨0, vEnv cv tv ((pc : Int) + 1) (d - 1) i, vMemI f ⟨14, a⟩⟩) := by
  have e0 : IntKind.wrap .i64 ((pc : Int) + 1) = (pc : Int) + 1 := wrapI64 (by omega) (by omega)
  have f0 : IntKind.wrap .i64 (d - 1) = d - 1 := wrapI64 (by omega) (by omega)
  simp only [vMemI, fnCells]
  simp -implicitDefEqProofs [v9SW, v9E, e0, f0]

set_option maxRecDepth 100000 in
theorem sw24 (cv tv : IV) (f : Fn) (pc i : Nat) (a d c : Int) (hpc : pc ≤ 1000000) (hd : 0 ≤ d ∧ d ≤ 256) :
    den code9 (extInsert 766) (.seq v9SW v9E) ⟨0, vEnv cv tv pc d i ++ [(13, .optr 1 0), (14, .imm (.val (.int .u8 c))), (93, avb false)], vMemI f ⟨24, a⟩⟩ = some (.normal, ⟨0, vEnv cv tv ((pc : Int) + 1) (d - 1) i, vMemI f ⟨24, a⟩⟩) := by
  have e0 : IntKind.wrap .i64 ((pc : Int) + 1) = (pc : Int) + 1 := wrapI64 (by omega) (by omega)
  have f0 : IntKind.wrap .i64 (d - 1) = d - 1 := wrapI64 (by omega) (by omega)
  simp only [vMemI, fnCells]
  simp -implicitDefEqProofs [v9SW, v9E, e0, f0]

set_option maxRecDepth 100000 in
theorem sw7 (cv tv : IV) (f : Fn) (pc i : Nat) (a d c : Int) (hpc : pc ≤ 1000000) (hd : 0 ≤ d ∧ d ≤ 256) :
    den code9 (extInsert 766) (.seq v9SW v9E) ⟨0, vEnv cv tv pc d i ++ [(13, .optr 1 0), (14, .imm (.val (.int .u8 c))), (93, avb false)], vMemI f ⟨7, a⟩⟩ = some (.normal, ⟨0, vEnv cv tv ((pc : Int) + 1) (d) i, vMemI f ⟨7, a⟩⟩) := by
  have e0 : IntKind.wrap .i64 ((pc : Int) + 1) = (pc : Int) + 1 := wrapI64 (by omega) (by omega)
  simp only [vMemI, fnCells]
  simp -implicitDefEqProofs [v9SW, v9E, e0]

set_option maxRecDepth 100000 in
theorem sw15 (cv tv : IV) (f : Fn) (pc i : Nat) (a d c : Int) (hpc : pc ≤ 1000000) (hd : 0 ≤ d ∧ d ≤ 256) :
    den code9 (extInsert 766) (.seq v9SW v9E) ⟨0, vEnv cv tv pc d i ++ [(13, .optr 1 0), (14, .imm (.val (.int .u8 c))), (93, avb false)], vMemI f ⟨15, a⟩⟩ = some (.normal, ⟨0, vEnv cv tv ((pc : Int) + 1) (d) i, vMemI f ⟨15, a⟩⟩) := by
  have e0 : IntKind.wrap .i64 ((pc : Int) + 1) = (pc : Int) + 1 := wrapI64 (by omega) (by omega)
  simp only [vMemI, fnCells]
  simp -implicitDefEqProofs [v9SW, v9E, e0]

set_option maxRecDepth 100000 in
theorem sw16 (cv tv : IV) (f : Fn) (pc i : Nat) (a d c : Int) (hpc : pc ≤ 1000000) (hd : 0 ≤ d ∧ d ≤ 256) :
    den code9 (extInsert 766) (.seq v9SW v9E) ⟨0, vEnv cv tv pc d i ++ [(13, .optr 1 0), (14, .imm (.val (.int .u8 c))), (93, avb false)], vMemI f ⟨16, a⟩⟩ = some (.normal, ⟨0, vEnv cv tv ((pc : Int) + 1) (d) i, vMemI f ⟨16, a⟩⟩) := by
  have e0 : IntKind.wrap .i64 ((pc : Int) + 1) = (pc : Int) + 1 := wrapI64 (by omega) (by omega)
  simp only [vMemI, fnCells]
  simp -implicitDefEqProofs [v9SW, v9E, e0]

set_option maxRecDepth 100000 in
theorem sw17 (cv tv : IV) (f : Fn) (pc i : Nat) (a d c : Int) (hpc : pc ≤ 1000000) (hd : 0 ≤ d ∧ d ≤ 256) :
    den code9 (extInsert 766) (.seq v9SW v9E) ⟨0, vEnv cv tv pc d i ++ [(13, .optr 1 0), (14, .imm (.val (.int .u8 c))), (93, avb false)], vMemI f ⟨17, a⟩⟩ = some (.normal, ⟨0, vEnv cv tv ((pc : Int) + 1) (d) i, vMemI f ⟨17, a⟩⟩) := by
  have e0 : IntKind.wrap .i64 ((pc : Int) + 1) = (pc : Int) + 1 := wrapI64 (by omega) (by omega)
  simp only [vMemI, fnCells]
  simp -implicitDefEqProofs [v9SW, v9E, e0]

set_option maxRecDepth 100000 in
theorem sw18 (cv tv : IV) (f : Fn) (pc i : Nat) (a d c : Int) (hpc : pc ≤ 1000000) (hd : 0 ≤ d ∧ d ≤ 256) :
    den code9 (extInsert 766) (.seq v9SW v9E) ⟨0, vEnv cv tv pc d i ++ [(13, .optr 1 0), (14, .imm (.val (.int .u8 c))), (93, avb false)], vMemI f ⟨18, a⟩⟩ = some (.normal, ⟨0, vEnv cv tv ((pc : Int) + 1) (d) i, vMemI f ⟨18, a⟩⟩) := by
  have e0 : IntKind.wrap .i64 ((pc : Int) + 1) = (pc : Int) + 1 := wrapI64 (by omega) (by omega)
  simp only [vMemI, fnCells]
  simp -implicitDefEqProofs [v9SW, v9E, e0]

set_option maxRecDepth 100000 in
theorem sw25 (cv tv : IV) (f : Fn) (pc i : Nat) (a d c : Int) (hpc : pc ≤ 1000000) (hd : 0 ≤ d ∧ d ≤ 256) :
    den code9 (extInsert 766) (.seq v9SW v9E) ⟨0, vEnv cv tv pc d i ++ [(13, .optr 1 0), (14, .imm (.val (.int .u8 c))), (93, avb false)], vMemI f ⟨25, a⟩⟩ = some (.normal, ⟨0, vEnv cv tv ((pc : Int) + 1) (d - 3) i, vMemI f ⟨25, a⟩⟩) := by
  have e0 : IntKind.wrap .i64 ((pc : Int) + 1) = (pc : Int) + 1 := wrapI64 (by omega) (by omega)
  have f0 : IntKind.wrap .i64 (d - 3) = d - 3 := wrapI64 (by omega) (by omega)
  simp only [vMemI, fnCells]
  simp -implicitDefEqProofs [v9SW, v9E, e0, f0]

set_option maxRecDepth 100000 in
theorem sw22 (cv tv : IV) (f : Fn) (pc i : Nat) (a d c : Int) (hpc : pc ≤ 1000000) (hd : 0 ≤ d ∧ d ≤ 256) (ha : 0 ≤ a ∧ a ≤ 256) :
    den code9 (extInsert 766) (.seq v9SW v9E) ⟨0, vEnv cv tv pc d i ++ [(13, .optr 1 0), (14, .imm (.val (.int .u8 c))), (93, avb false)], vMemI f ⟨22, a⟩⟩ = some (.normal, ⟨0, vEnv cv tv ((pc : Int) + 1) (d + 1 - a) i, vMemI f ⟨22, a⟩⟩) := by
  have e0 : IntKind.wrap .i64 ((pc : Int) + 1) = (pc : Int) + 1 := wrapI64 (by omega) (by omega)
  have f0 : IntKind.wrap .i64 (d + 1) = d + 1 := wrapI64 (by omega) (by omega)
  have f1 : IntKind.wrap .i64 (d + 1 - a) = d + 1 - a := wrapI64 (by omega) (by omega)
  simp only [vMemI, fnCells]
  simp -implicitDefEqProofs [v9SW, v9E, e0, f0, f1]

set_option maxRecDepth 100000 in
theorem sw23 (cv tv : IV) (f : Fn) (pc i : Nat) (a d c : Int) (hpc : pc ≤ 1000000) (hd : 0 ≤ d ∧ d ≤ 256) (ha : 0 ≤ a ∧ a ≤ 256) :
    den code9 (extInsert 766) (.seq v9SW v9E) ⟨0, vEnv cv tv pc d i ++ [(13, .optr 1 0), (14, .imm (.val (.int .u8 c))), (93, avb false)], vMemI f ⟨23, a⟩⟩ = some (.normal, ⟨0, vEnv cv tv ((pc : Int) + 1) (d + 1 - 2 * a) i, vMemI f ⟨23, a⟩⟩) := by
  have e0 : IntKind.wrap .i64 ((pc : Int) + 1) = (pc : Int) + 1 := wrapI64 (by omega) (by omega)
  have f0 : IntKind.wrap .i64 (d + 1) = d + 1 := wrapI64 (by omega) (by omega)
  have f1 : IntKind.wrap .i64 (2 * a) = 2 * a := wrapI64 (by omega) (by omega)
  have f2 : IntKind.wrap .i64 (d + 1 - 2 * a) = d + 1 - 2 * a := wrapI64 (by omega) (by omega)
  simp only [vMemI, fnCells]
  simp -implicitDefEqProofs [v9SW, v9E, e0, f0, f1, f2]

set_option maxRecDepth 100000 in
theorem sw27 (cv tv : IV) (f : Fn) (pc i : Nat) (a d c : Int) (hpc : pc ≤ 1000000) (hd : 0 ≤ d ∧ d ≤ 256) (ha : 0 ≤ a ∧ a ≤ 256) :
    den code9 (extInsert 766) (.seq v9SW v9E) ⟨0, vEnv cv tv pc d i ++ [(13, .optr 1 0), (14, .imm (.val (.int .u8 c))), (93, avb false)], vMemI f ⟨27, a⟩⟩ = some (.normal, ⟨0, vEnv cv tv ((pc : Int) + 1) (d - a) i, vMemI f ⟨27, a⟩⟩) := by
  have e0 : IntKind.wrap .i64 ((pc : Int) + 1) = (pc : Int) + 1 := wrapI64 (by omega) (by omega)
  have f0 : IntKind.wrap .i64 (d - a) = d - a := wrapI64 (by omega) (by omega)
  simp only [vMemI, fnCells]
  simp -implicitDefEqProofs [v9SW, v9E, e0, f0]

set_option maxRecDepth 100000 in
theorem sw28 (cv tv : IV) (f : Fn) (pc i : Nat) (a d c : Int) (h1 : 1 ≤ d) :
    den code9 (extInsert 766) (.seq v9SW v9E) ⟨0, vEnv cv tv pc d i ++ [(13, .optr 1 0), (14, .imm (.val (.int .u8 c))), (93, avb false)], vMemI f ⟨28, a⟩⟩ = some (.ret, ⟨0, [(6, avb true)], vMemI f ⟨28, a⟩⟩) := by
  simp only [vMemI, fnCells]
  simp -implicitDefEqProofs [v9SW, v9E, h1]

set_option maxRecDepth 100000 in
theorem sw21 (cv tv : IV) (f : Fn) (pc i : Nat) (a d c : Int) :
    den code9 (extInsert 766) (.seq v9SW v9E) ⟨0, vEnv cv tv pc d i ++ [(13, .optr 1 0), (14, .imm (.val (.int .u8 c))), (93, avb false)], vMemI f ⟨21, a⟩⟩ = if d = 0 then some (.exit 1, ⟨0, vEnv cv tv a d i, vMemI f ⟨21, a⟩⟩) else some (.ret, ⟨0, [(6, avb false)], vMemI f ⟨21, a⟩⟩) := by
  simp only [vMemI, fnCells]
  by_cases h : d = 0
  · subst h
    simp -implicitDefEqProofs [v9SW, v9E]
  · simp -implicitDefEqProofs [v9SW, v9E, h]

set_option maxRecDepth 100000 in
theorem sw19 (cv tv : IV) (f : Fn) (pc i : Nat) (a d c : Int) :
    den code9 (extInsert 766) (.seq v9SW v9E) ⟨0, vEnv cv tv pc d i ++ [(13, .optr 1 0), (14, .imm (.val (.int .u8 c))), (93, avb false)], vMemI f ⟨19, a⟩⟩ = some (.exit 1, ⟨0, vEnv cv tv a d i, vMemI f ⟨19, a⟩⟩) := by
  simp only [vMemI, fnCells]
  simp -implicitDefEqProofs [v9SW, v9E]

set_option maxRecDepth 100000 in
theorem sw20 (cv tv : IV) (f : Fn) (pc i : Nat) (a d c : Int) (hpc : pc ≤ 1000000) (hd : 0 ≤ d ∧ d ≤ 256) :
    den code9 (extInsert 766) (.seq v9SW v9E) ⟨0, vEnv cv tv pc d i ++ [(13, .optr 1 0), (14, .imm (.val (.int .u8 c))), (93, avb false)], vMemI f ⟨20, a⟩⟩ = if c.tmod 2 = 1 then some (.exit 1, ⟨0, vEnv cv tv a (d - 1) i, vMemI f ⟨20, a⟩⟩) else some (.normal, ⟨0, vEnv cv tv ((pc : Int) + 1) (d - 1) i, vMemI f ⟨20, a⟩⟩) := by
  have e0 : IntKind.wrap .i64 ((pc : Int) + 1) = (pc : Int) + 1 := wrapI64 (by omega) (by omega)
  have f0 : IntKind.wrap .i64 (d - 1) = d - 1 := wrapI64 (by omega) (by omega)
  simp only [vMemI, fnCells]
  by_cases h : c.tmod 2 = 1
  · simp -implicitDefEqProofs [v9SW, v9E, e0, f0, h]
  · simp -implicitDefEqProofs [v9SW, v9E, e0, f0, h]

end Go.EX
