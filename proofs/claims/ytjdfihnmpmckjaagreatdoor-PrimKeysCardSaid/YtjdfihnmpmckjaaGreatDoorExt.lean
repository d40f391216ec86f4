import Derived.Test.YtjdfihnmpmckjaaGreatDoorFmt
import Derived.Test.YtjdfihnmpmckjaaGreatDoorK6
set_option linter.unusedVariables false
namespace Go.EX
def ze1(g:Nat)(c:zac):zac:=fun f a m=>if f=g then c f a m else none
theorem zlz{num:Names}{P:Program}{g:Nat}{c:zac}(h:zew num P c):zew num P (ze1 g c):=by
 intro f args m r m' C vals hc hm hl hr
 unfold ze1 at hc
 split at hc
 ·exact h f args m r m' C vals hc hm hl hr
 ·cases hc
end Go.EX

