/-
  EX: DeoptFrames is true.
-/
import Derived.Test.YtmghegmjiagkgaaGreatDoorDr
import Derived.Test.YtmghegmjiagkgaaGreatDoorDp
set_option linter.unusedVariables false
set_option linter.unusedSimpArgs false
namespace Go.EX
section
variable {code : Nat → Option XFun} {ext : Calls'}

set_option maxHeartbeats 2000000 in
theorem keep1 (h : code 14 = some x14) (h' : code 64 = some x64) (n : Nat) (c1 : List IV) (m1 : Bool) :
    callW code ext 14 [.optr 0 0, .osl 1 0 2 n (some (n + 1))] [.rich (bookB 0 nilB), .flat c1 m1] =
      some (.tup [], [.rich (bookB 1 (.osl 2 0 3 1 none)), .flat c1 m1, .rich [.osl 1 0 2 n (some (n + 1)), nilB, int64 1]]) := by
  rw [callW_fun code ext h]
  have e1 : IntKind.wrap .i64 1 = 1 := by decide
  simp -implicitDefEqProofs [x14, callW_fun code ext h', x64, bookB, nilB, e1, exAppendX, exAppend, exAppendR, elems, elemsR]

set_option maxHeartbeats 2000000 in
theorem keep2A (h : code 14 = some x14) (h' : code 64 = some x64) (n m : Nat) (c1 c3 : List IV) (m1 m3 : Bool) :
    callW code ext 14 [.optr 0 0, .osl 1 0 2 m (some m)] [.rich (bookB 1 (.osl 2 0 3 1 none)), .flat c1 m1, .rich [.osl 3 0 2 n (some (n + 1)), nilB, int64 1], .flat c3 m3] =
      some (.tup [], [.rich (bookB 2 (.osl 4 0 3 2 none)), .flat c1 m1, .dead, .flat c3 m3, .rich [.osl 3 0 2 n (some (n + 1)), nilB, int64 1, .osl 1 0 2 m (some m), nilB, int64 2]]) := by
  rw [callW_fun code ext h]
  have e1 : IntKind.wrap .i64 2 = 2 := by decide
  simp -implicitDefEqProofs [x14, callW_fun code ext h', x64, bookB, nilB, e1, exAppendX, exAppend, exAppendR, elems, elemsR]

set_option maxHeartbeats 2000000 in
theorem keep3A (h : code 14 = some x14) (h' : code 64 = some x64) (n m : Nat) (c1 c3 c4 : List IV) (m1 m3 m4 : Bool) :
    callW code ext 14 [.optr 0 0, .osl 1 0 2 m (some m)] [.rich (bookB 2 (.osl 2 0 3 2 none)), .flat c1 m1, .rich [.osl 3 0 2 n (some (n + 1)), nilB, int64 1, .osl 4 0 2 m (some m), nilB, int64 2], .flat c3 m3, .flat c4 m4] =
      some (.tup [], [.rich (bookB 3 (.osl 5 0 3 3 none)), .flat c1 m1, .dead, .flat c3 m3, .flat c4 m4, .rich [.osl 3 0 2 n (some (n + 1)), nilB, int64 1, .osl 4 0 2 m (some m), nilB, int64 2, .osl 1 0 2 m (some m), nilB, int64 3]]) := by
  rw [callW_fun code ext h]
  have e1 : IntKind.wrap .i64 3 = 3 := by decide
  simp -implicitDefEqProofs [x14, callW_fun code ext h', x64, bookB, nilB, e1, exAppendX, exAppend, exAppendR, elems, elemsR]

set_option maxHeartbeats 2000000 in
theorem keep2N (h : code 14 = some x14) (h' : code 64 = some x64) (n : Nat) (c3 : List IV) (m3 : Bool) :
    callW code ext 14 [.optr 0 0, nilB] [.rich (bookB 1 (.osl 1 0 3 1 none)), .rich [.osl 2 0 2 n (some (n + 1)), nilB, int64 1], .flat c3 m3] =
      some (.tup [], [.rich (bookB 2 (.osl 3 0 3 2 none)), .dead, .flat c3 m3, .rich [.osl 2 0 2 n (some (n + 1)), nilB, int64 1, nilB, nilB, int64 2]]) := by
  rw [callW_fun code ext h]
  have e1 : IntKind.wrap .i64 2 = 2 := by decide
  simp -implicitDefEqProofs [x14, callW_fun code ext h', x64, bookB, nilB, e1, exAppendX, exAppend, exAppendR, elems, elemsR]

set_option maxHeartbeats 2000000 in
theorem keep3N (h : code 14 = some x14) (h' : code 64 = some x64) (n : Nat) (c3 : List IV) (m3 : Bool) :
    callW code ext 14 [.optr 0 0, nilB] [.rich (bookB 2 (.osl 1 0 3 2 none)), .rich [.osl 2 0 2 n (some (n + 1)), nilB, int64 1, nilB, nilB, int64 2], .flat c3 m3] =
      some (.tup [], [.rich (bookB 3 (.osl 3 0 3 3 none)), .dead, .flat c3 m3, .rich [.osl 2 0 2 n (some (n + 1)), nilB, int64 1, nilB, nilB, int64 2, nilB, nilB, int64 3]]) := by
  rw [callW_fun code ext h]
  have e1 : IntKind.wrap .i64 3 = 3 := by decide
  simp -implicitDefEqProofs [x14, callW_fun code ext h', x64, bookB, nilB, e1, exAppendX, exAppend, exAppendR, elems, elemsR]

end
end Go.EX
