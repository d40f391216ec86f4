import Derived.Test.YtgidfebccdfjgaaDoorH8
set_option linter.unusedVariables false
set_option linter.unusedSimpArgs false
namespace Go.EX
section
variable {code : Nat → Option XFun} {ext : Calls'}
abbrev plMem (W B : List Nat) (e : Nat) (o : AObj) : Mem := [.rich [.osl 2 0 1 W.length (some W.length), .osl 3 0 1 B.length (some B.length), int64 e], o, .flat (urow W) false, .flat (urow B) false]
end
end Go.EX

