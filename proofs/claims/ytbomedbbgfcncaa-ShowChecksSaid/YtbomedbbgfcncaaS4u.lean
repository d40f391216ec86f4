/-
  EX: law 04: show's may (the chains written by a program)
-/
import Derived.Test.YtbomedbbgfcncaaS4u3
import Derived.Test.YtbomedbbgfcncaaS4u4
import Derived.Test.YtbomedbbgfcncaaS4u5
import Derived.Test.YtbomedbbgfcncaaS4u6
import Derived.Test.YtbomedbbgfcncaaS4u7
set_option linter.unusedVariables false
set_option linter.unusedSimpArgs false
namespace Go.EX

section
variable {code : Nat → Option XFun} {ext : Calls'}

theorem may_spec (h : code 651 = some x651) (h' : code 656 = some x656) (h2 : code 653 = some x653) (h3 : code 759 = some x759) (h4 : code 749 = some x749) (h5 : code 650 = some x650) (h6 : code 652 = some x652) (T : List Obj) (hb : T.length ≤ 1048576) (k : Nat) (o : Obj) (ho : T[k]? = some o) : ∃ b : Bool, callW code ext 652 [.osl 0 0 5 T.length (some (T.length + 1)), .optr 0 (k * 5)] [.flat (storeRow T) false] = some (avb b, [.flat (storeRow T) false]) ∧ (b = true ↔ ObjOk T o) := by
  by_cases k3 : o.k = 3
  · exact may3 h h' h2 h3 h4 h5 h6 T hb k o ho k3
  by_cases k4 : o.k = 4
  · exact may4 h h' h2 h3 h4 h5 h6 T hb k o ho k4
  by_cases k5 : o.k = 5
  · exact may5 h h' h2 h3 h4 h5 h6 T hb k o ho k5
  by_cases k6 : o.k = 6
  · exact may6 h h' h2 h3 h4 h5 h6 T hb k o ho k6
  exact may7 h h' h2 h3 h4 h5 h6 T hb k o ho k3 k4 k5 k6

end
end Go.EX
