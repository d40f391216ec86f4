import Derived.Test.YtjdfihnmpmckjaaGreatDoorFmt
import Derived.Test.YtjdfihnmpmckjaaGreatDoorK6
set_option linter.unusedVariables false
namespace Go.EX
def zd6(g:Nat)(c:zac):zac:=fun f a m=>if f=g then c f a m else none
theorem ziv{num:Names}{P:Program}{g:Nat}{c:zac}(h:zev num P c):zev num P (zd6 g c):=by
 intro f args m r m' C vals hc hm hl hr
 unfold zd6 at hc
 split at hc
 ·exact h f args m r m' C vals hc hm hl hr
 ·cases hc
end Go.EX

