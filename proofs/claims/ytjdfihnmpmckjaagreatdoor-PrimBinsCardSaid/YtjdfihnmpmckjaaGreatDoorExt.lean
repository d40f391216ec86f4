import Derived.Test.YtjdfihnmpmckjaaGreatDoorFmt
import Derived.Test.YtjdfihnmpmckjaaGreatDoorK6
set_option linter.unusedVariables false
namespace Go.EX
def extOne(g:Nat)(c:Calls'):Calls':=fun f a m=>if f=g then c f a m else none
theorem zf3{num:Names}{P:Program}{g:Nat}{c:Calls'}(h:ExtOK num P c):ExtOK num P (extOne g c):=by
 intro f args m r m' C vals hc hm hl hr
 unfold extOne at hc
 split at hc
 ·exact h f args m r m' C vals hc hm hl hr
 ·cases hc
end Go.EX

