/-
  EX: the program's plain data.
-/
import Derived.Test.YtbomedbbgfcncaaSim
set_option linter.unusedVariables false
set_option linter.unusedSimpArgs false
namespace Go.EX

structure Val where
  k : Int
  n : Int
  deriving DecidableEq

def tVal : Ty Val := ⟨2, true, fun v => [.val (.int .u8 v.k), .val (.int .i64 v.n)], fun v => (tInt .u8).wf v.k ∧ (tInt .i64).wf v.n, fun _ => rfl⟩

abbrev zVal : Val := ⟨0, 0⟩

/-- An object of a store. -/
structure Obj where
  k : Int
  s : ByteArray
  l : Sl tVal
  room : Int
  fn : Int

def tObj : Ty Obj := ⟨5, true, fun o => [.val (.int .u8 o.k), .val (.string o.s), o.l.iv, .val (.int .i64 o.room), .val (.int .i64 o.fn)],
  fun o => (tInt .u8).wf o.k ∧ tStr.wf o.s ∧ (tInt .i64).wf o.room ∧ (tInt .i64).wf o.fn, fun _ => rfl⟩

end Go.EX
