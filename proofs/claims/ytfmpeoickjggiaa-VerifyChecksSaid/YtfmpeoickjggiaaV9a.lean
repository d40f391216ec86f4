/-
  EX: law 09: what the kernel reckons.
-/
import Derived.Test.YtfmpeoickjggiaaCc9
import Derived.Test.YtfmpeoickjggiaaIns
import Derived.Test.YtfmpeoickjggiaaK3
set_option linter.unusedVariables false
set_option linter.unusedSimpArgs false
namespace Go.EX

/-- Calls of law 09's functions. -/
noncomputable abbrev run9 : Calls' := callW code9 (extInsert 766)

theorem run9_insert (args : List AV) (m : Mem) : run9 766 args m = exInsert args m := by
  unfold run9
  rw [callW_ext code9 (extInsert 766) (rfl : code9 766 = none)]
  simp [extInsert]

set_option maxRecDepth 100000 in
theorem alive9 : run9 467 [] [] = some (.imm (.val (.bool true)), []) := (callW_some code9 (extInsert 766)).2 ⟨60, by kernel_rfl⟩

end Go.EX
