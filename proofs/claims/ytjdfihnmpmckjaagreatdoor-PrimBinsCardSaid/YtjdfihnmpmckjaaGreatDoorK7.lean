import Derived.Test.YtjdfihnmpmckjaaGreatDoorK1
import Derived.Test.YtjdfihnmpmckjaaGreatDoorK6
import Derived.Laws.Strings
namespace Go.EX
def fillBL1(sz:Nat)(f:Nat)(mk:Nat):XCode:=
 (.seq (.seq (.region [0,2,3,4,25] [⟨(some 21),.mv (.t 4),none⟩,
  ⟨(some 22),.fieldA 0 (.t 3),none⟩,
  ⟨(some 23),.load none (.t 22),none⟩,
  ⟨(some 24),.len (.t 23),none⟩,
  ⟨(some 25),.bin .lss (.t 21) (.t 24),none⟩])
 (.cond (.t 25)
  .skip
  (.exit 2)))
 (.seq (.block 3 (.region [0,2,3,4] [⟨(some 28),.fieldA 0 (.t 3),none⟩,
  ⟨(some 29),.load none (.t 28),none⟩,
  ⟨(some 30),.mv (.t 4),none⟩,
  ⟨(some 31),.fieldA 2 (.t 3),none⟩,
  ⟨(some 32),.load none (.t 31),none⟩,
  ⟨(some 33),.call .view mk [(.t 32)],none⟩,
  ⟨(some 34),.idxA sz (.t 29) (.t 30),none⟩,
  ⟨none,.store sz (.t 34) (.t 33),none⟩]))
 (.region [0,2,3,4] [⟨(some 26),.mv (.t 4),none⟩,
  ⟨(some 27),.bin .add (.t 26) (.c (.int .i64 1)),none⟩,
  ⟨(some 4),.mv (.t 27),none⟩])))
def fillBL2(sz:Nat)(f:Nat)(mk:Nat):XCode:=
 (.seq (.seq (.region [0,2,11] [⟨(some 5),.mv (.t 2),none⟩,
  ⟨(some 6),.mv (.t 0),none⟩,
  ⟨(some 7),.nilCheck (.t 6),none⟩,
  ⟨(some 8),.fieldA f (.t 7),none⟩,
  ⟨(some 9),.load none (.t 8),none⟩,
  ⟨(some 10),.len (.t 9),none⟩,
  ⟨(some 11),.bin .lss (.t 5) (.t 10),none⟩])
 (.cond (.t 11)
  .skip
  (.exit 0)))
 (.seq (.block 1 (.seq (.region [0,2,3] [⟨(some 14),.mv (.t 0),none⟩,
  ⟨(some 15),.nilCheck (.t 14),none⟩,
  ⟨(some 16),.fieldA f (.t 15),none⟩,
  ⟨(some 17),.load none (.t 16),none⟩,
  ⟨(some 18),.mv (.t 2),none⟩,
  ⟨(some 19),.idxA 3 (.t 17) (.t 18),none⟩,
  ⟨(some 20),.load (some 3) (.t 19),none⟩,
  ⟨(some 3),.alloc [(.slice none 0 0),(.slice none 0 0),(.int .i64 0)],none⟩,
  ⟨none,.store 3 (.t 3) (.t 20),none⟩])
 (.seq (.region [0,2,3,4] [⟨(some 4),.mv (.c (.int .i64 0)),none⟩])
 (.block 2 (.loop [1000000,0,2,3,4] (fillBL1 sz f mk))))))
 (.region [0,2] [⟨(some 12),.mv (.t 2),none⟩,
  ⟨(some 13),.bin .add (.t 12) (.c (.int .i64 1)),none⟩,
  ⟨(some 2),.mv (.t 13),none⟩])))
def fillB(sz:Nat)(f:Nat)(mk:Nat):XFun:=⟨[.whole],
 (.seq (.region [0,2] [⟨(some 2),.mv (.c (.int .i64 0)),none⟩])
 (.block 0 (.loop [1000000,0,2] (fillBL2 sz f mk))))⟩
def growBL1(sz:Nat)(by_:Nat)(zs:List Value)(f:Nat)(mk:Nat):XCode:=
 (.seq (.seq (.region [0,2,3,4,5,25] [⟨(some 24),.mv (.t 5),none⟩,
  ⟨(some 25),.bin .lss (.t 24) (.c (.int .i64 40)),none⟩])
 (.cond (.t 25)
  .skip
  (.exit 2)))
 (.seq (.block 3 (.region [0,2,3,4,5] [⟨(some 28),.mv (.t 4),none⟩,
  ⟨(some 29),.fieldA 2 (.t 3),none⟩,
  ⟨(some 30),.load none (.t 29),none⟩,
  ⟨(some 31),.call .view mk [(.t 30)],none⟩,
  ⟨(some 32),.buildSlice sz zs 1 [(0,sz,(.t 31))],none⟩,
  ⟨(some 33),.appendN sz by_ (.t 28) (.t 32),none⟩,
  ⟨(some 4),.mv (.t 33),none⟩]))
 (.region [0,2,3,4,5] [⟨(some 26),.mv (.t 5),none⟩,
  ⟨(some 27),.bin .add (.t 26) (.c (.int .i64 1)),none⟩,
  ⟨(some 5),.mv (.t 27),none⟩])))
def growBL2(sz:Nat)(by_:Nat)(zs:List Value)(f:Nat)(mk:Nat):XCode:=
 (.seq (.seq (.region [0,2,12] [⟨(some 6),.mv (.t 2),none⟩,
  ⟨(some 7),.mv (.t 0),none⟩,
  ⟨(some 8),.nilCheck (.t 7),none⟩,
  ⟨(some 9),.fieldA f (.t 8),none⟩,
  ⟨(some 10),.load none (.t 9),none⟩,
  ⟨(some 11),.len (.t 10),none⟩,
  ⟨(some 12),.bin .lss (.t 6) (.t 11),none⟩])
 (.cond (.t 12)
  .skip
  (.exit 0)))
 (.seq (.block 1 (.seq (.region [0,2,3] [⟨(some 15),.mv (.t 0),none⟩,
  ⟨(some 16),.nilCheck (.t 15),none⟩,
  ⟨(some 17),.fieldA f (.t 16),none⟩,
  ⟨(some 18),.load none (.t 17),none⟩,
  ⟨(some 19),.mv (.t 2),none⟩,
  ⟨(some 20),.idxA 3 (.t 18) (.t 19),none⟩,
  ⟨(some 21),.load (some 3) (.t 20),none⟩,
  ⟨(some 3),.alloc [(.slice none 0 0),(.slice none 0 0),(.int .i64 0)],none⟩,
  ⟨none,.store 3 (.t 3) (.t 21),none⟩])
 (.seq (.region [0,2,3,4] [⟨(some 22),.fieldA 0 (.t 3),none⟩,
  ⟨(some 23),.load none (.t 22),none⟩,
  ⟨(some 4),.mv (.t 23),none⟩])
 (.seq (.seq (.region [0,2,3,4,5] [⟨(some 5),.mv (.c (.int .i64 0)),none⟩])
 (.block 2 (.loop [1000000,0,2,3,4,5] (growBL1 sz by_ zs f mk))))
 (.region [0,2] [⟨(some 34),.mv (.t 0),none⟩,
  ⟨(some 35),.nilCheck (.t 34),none⟩,
  ⟨(some 36),.fieldA f (.t 35),none⟩,
  ⟨(some 37),.load none (.t 36),none⟩,
  ⟨(some 38),.mv (.t 2),none⟩,
  ⟨(some 39),.mv (.t 4),none⟩,
  ⟨(some 40),.idxA 3 (.t 37) (.t 38),none⟩,
  ⟨(some 41),.fieldA 1 (.t 40),none⟩,
  ⟨none,.store 1 (.t 41) (.t 39),none⟩])))))
 (.region [0,2] [⟨(some 13),.mv (.t 2),none⟩,
  ⟨(some 14),.bin .add (.t 13) (.c (.int .i64 1)),none⟩,
  ⟨(some 2),.mv (.t 14),none⟩])))
def growB(sz:Nat)(by_:Nat)(zs:List Value)(f:Nat)(mk:Nat):XFun:=⟨[.whole],
 (.seq (.region [0,2] [⟨(some 2),.mv (.c (.int .i64 0)),none⟩])
 (.block 0 (.loop [1000000,0,2] (growBL2 sz by_ zs f mk))))⟩
def lookBL1(sz:Nat)(f:Nat)(isn:Nat):XCode:=
 (.seq (.seq (.region [0,3,4,5,34] [⟨(some 30),.mv (.t 5),none⟩,
  ⟨(some 31),.fieldA 1 (.t 4),none⟩,
  ⟨(some 32),.load none (.t 31),none⟩,
  ⟨(some 33),.len (.t 32),none⟩,
  ⟨(some 34),.bin .lss (.t 30) (.t 33),none⟩])
 (.cond (.t 34)
  .skip
  (.exit 2)))
 (.seq (.block 3 (.seq (.region [0,3,4,5,63] [⟨(some 37),.fieldA 1 (.t 4),none⟩,
  ⟨(some 38),.load none (.t 37),none⟩,
  ⟨(some 39),.mv (.t 5),none⟩,
  ⟨(some 40),.idxA sz (.t 38) (.t 39),none⟩,
  ⟨(some 41),.load (some sz) (.t 40),none⟩,
  ⟨(some 42),.fieldA 2 (.t 4),none⟩,
  ⟨(some 43),.load none (.t 42),none⟩,
  ⟨(some 44),.call .view isn [(.t 41),(.t 43)],none⟩,
  ⟨(some 45),.un .not (.t 44),none⟩,
  ⟨(some 46),.mv (.t 45),none⟩,
  ⟨(some 47),.mv (.t 5),some (46,false)⟩,
  ⟨(some 48),.fieldA 0 (.t 4),some (46,false)⟩,
  ⟨(some 49),.load none (.t 48),some (46,false)⟩,
  ⟨(some 50),.len (.t 49),some (46,false)⟩,
  ⟨(some 51),.bin .lss (.t 47) (.t 50),some (46,false)⟩,
  ⟨(some 52),.mv (.t 51),some (46,false)⟩,
  ⟨(some 53),.fieldA 0 (.t 4),some (52,true)⟩,
  ⟨(some 54),.load none (.t 53),some (52,true)⟩,
  ⟨(some 55),.mv (.t 5),some (52,true)⟩,
  ⟨(some 56),.idxA sz (.t 54) (.t 55),some (52,true)⟩,
  ⟨(some 57),.load (some sz) (.t 56),some (52,true)⟩,
  ⟨(some 58),.fieldA 2 (.t 4),some (52,true)⟩,
  ⟨(some 59),.load none (.t 58),some (52,true)⟩,
  ⟨(some 60),.call .view isn [(.t 57),(.t 59)],some (52,true)⟩,
  ⟨(some 61),.un .not (.t 60),some (52,true)⟩,
  ⟨(some 62),.pick (.t 52) (.t 61) (.c (.bool false)),some (46,false)⟩,
  ⟨(some 63),.pick (.t 46) (.c (.bool true)) (.t 62),none⟩])
 (.cond (.t 63)
  (.seq (.region [2] [⟨(some 2),.mv (.c (.bool false)),none⟩])
  .ret)
  .skip)))
 (.region [0,3,4,5] [⟨(some 35),.mv (.t 5),none⟩,
  ⟨(some 36),.bin .add (.t 35) (.c (.int .i64 1)),none⟩,
  ⟨(some 5),.mv (.t 36),none⟩])))
def lookBL2(sz:Nat)(f:Nat)(isn:Nat):XCode:=
 (.seq (.seq (.region [0,3,12] [⟨(some 6),.mv (.t 3),none⟩,
  ⟨(some 7),.mv (.t 0),none⟩,
  ⟨(some 8),.nilCheck (.t 7),none⟩,
  ⟨(some 9),.fieldA f (.t 8),none⟩,
  ⟨(some 10),.load none (.t 9),none⟩,
  ⟨(some 11),.len (.t 10),none⟩,
  ⟨(some 12),.bin .lss (.t 6) (.t 11),none⟩])
 (.cond (.t 12)
  .skip
  (.exit 0)))
 (.seq (.block 1 (.seq (.region [0,3,4] [⟨(some 15),.mv (.t 0),none⟩,
  ⟨(some 16),.nilCheck (.t 15),none⟩,
  ⟨(some 17),.fieldA f (.t 16),none⟩,
  ⟨(some 18),.load none (.t 17),none⟩,
  ⟨(some 19),.mv (.t 3),none⟩,
  ⟨(some 20),.idxA 3 (.t 18) (.t 19),none⟩,
  ⟨(some 21),.load (some 3) (.t 20),none⟩,
  ⟨(some 4),.alloc [(.slice none 0 0),(.slice none 0 0),(.int .i64 0)],none⟩,
  ⟨none,.store 3 (.t 4) (.t 21),none⟩])
 (.seq (.seq (.region [0,3,4,29] [⟨(some 22),.fieldA 1 (.t 4),none⟩,
  ⟨(some 23),.load none (.t 22),none⟩,
  ⟨(some 24),.len (.t 23),none⟩,
  ⟨(some 25),.fieldA 0 (.t 4),none⟩,
  ⟨(some 26),.load none (.t 25),none⟩,
  ⟨(some 27),.len (.t 26),none⟩,
  ⟨(some 28),.bin .add (.t 27) (.c (.int .i64 40)),none⟩,
  ⟨(some 29),.bin .neq (.t 24) (.t 28),none⟩])
 (.cond (.t 29)
  (.seq (.region [2] [⟨(some 2),.mv (.c (.bool false)),none⟩])
  .ret)
  .skip))
 (.seq (.region [0,3,4,5] [⟨(some 5),.mv (.c (.int .i64 0)),none⟩])
 (.block 2 (.loop [1000000,0,3,4,5] (lookBL1 sz f isn)))))))
 (.region [0,3] [⟨(some 13),.mv (.t 3),none⟩,
  ⟨(some 14),.bin .add (.t 13) (.c (.int .i64 1)),none⟩,
  ⟨(some 3),.mv (.t 14),none⟩])))
def lookB(sz:Nat)(f:Nat)(isn:Nat):XFun:=⟨[.whole,.tmp 2],
 (.seq (.region [0] [⟨(some 2),.mv (.c (.bool false)),none⟩])
 (.seq (.seq (.region [0,3] [⟨(some 3),.mv (.c (.int .i64 0)),none⟩])
 (.block 0 (.loop [1000000,0,3] (lookBL2 sz f isn))))
 (.seq (.region [2] [⟨(some 2),.mv (.c (.bool true)),none⟩])
 .ret)))⟩
def x486W:XFun:=⟨[.whole,.tmp 4],
 (.seq (.region [0,1] [⟨(some 4),.mv (.c (.bool false)),none⟩])
 (.seq (.region [0,1,5] [⟨(some 5),.alloc [(.int .i64 0),(.slice none 0 0),(.slice none 0 0),(.slice none 0 0),(.slice none 0 0),(.slice none 0 0),(.slice none 0 0),(.slice none 0 0),(.slice none 0 0),(.slice none 0 0),(.slice none 0 0),(.slice none 0 0),(.slice none 0 0),(.slice none 0 0),(.slice none 0 0),(.slice none 0 0),(.slice none 0 0),(.slice none 0 0),(.slice none 0 0),(.slice none 0 0),(.slice none 0 0)],none⟩])
 (.seq (.region [1,5] [⟨(some 6),.mv (.t 0),none⟩,
  ⟨(some 7),.call .whole 12 [(.t 5),(.t 6)],none⟩])
 (.seq (.region [5] [⟨(some 8),.mv (.t 1),none⟩,
  ⟨(some 9),.call .whole 12 [(.t 5),(.t 8)],none⟩])
 (.seq (.region [4] [⟨(some 10),.call .whole 1 [(.t 5)],none⟩,
  ⟨(some 4),.mv (.t 10),none⟩])
 .ret)))))⟩
def x12W:XFun:=⟨[.whole],
 (.region [] [⟨(some 4),.mv (.t 0),none⟩,
  ⟨(some 5),.mv (.t 1),none⟩,
  ⟨(some 6),.call .whole 10 [(.t 4),(.t 5)],none⟩])⟩
def x10WL1:XCode:=
 (.seq (.seq (.region [0,1,4,8] [⟨(some 5),.mv (.t 4),none⟩,
  ⟨(some 6),.mv (.t 1),none⟩,
  ⟨(some 7),.len (.t 6),none⟩,
  ⟨(some 8),.bin .lss (.t 5) (.t 7),none⟩])
 (.cond (.t 8)
  .skip
  (.exit 0)))
 (.seq (.block 1 (.region [0,1,4] [⟨(some 11),.mv (.t 0),none⟩,
  ⟨(some 12),.mv (.t 1),none⟩,
  ⟨(some 13),.mv (.t 4),none⟩,
  ⟨(some 14),.idxA 5 (.t 12) (.t 13),none⟩,
  ⟨(some 15),.load (some 5) (.t 14),none⟩,
  ⟨(some 16),.call .whole 9 [(.t 11),(.t 15)],none⟩]))
 (.region [0,1,4] [⟨(some 9),.mv (.t 4),none⟩,
  ⟨(some 10),.bin .add (.t 9) (.c (.int .i64 1)),none⟩,
  ⟨(some 4),.mv (.t 10),none⟩])))
def x10W:XFun:=⟨[.whole],
 (.seq (.seq (.region [0,1,4] [⟨(some 4),.mv (.c (.int .i64 0)),none⟩])
 (.block 0 (.loop [1000000,0,1,4] x10WL1)))
 (.region [] [⟨(some 17),.mv (.t 0),none⟩,
  ⟨(some 18),.mv (.t 1),none⟩,
  ⟨(some 19),.call .whole 62 [(.t 17),(.t 18)],none⟩]))⟩
def x9W:XFun:=⟨[.whole],
 (.seq (.region [0,3] [⟨(some 3),.box 5 (.t 1),none⟩])
 (.region [] [⟨(some 4),.mv (.t 0),none⟩,
  ⟨(some 5),.fieldA 2 (.t 3),none⟩,
  ⟨(some 6),.load none (.t 5),none⟩,
  ⟨(some 7),.call .whole 14 [(.t 4),(.t 6)],none⟩]))⟩
def x14W:XFun:=⟨[.whole],
 (.region [] [⟨(some 4),.mv (.t 0),none⟩,
  ⟨(some 5),.mv (.t 1),none⟩,
  ⟨(some 6),.call .whole 64 [(.t 4),(.t 5)],none⟩])⟩
def x64W:XFun:=⟨[.whole],
 (.seq (.region [0,1] [⟨(some 4),.mv (.t 0),none⟩,
  ⟨(some 5),.nilCheck (.t 4),none⟩,
  ⟨(some 6),.fieldA 0 (.t 5),none⟩,
  ⟨(some 7),.load none (.t 6),none⟩,
  ⟨(some 8),.bin .add (.t 7) (.c (.int .i64 1)),none⟩,
  ⟨(some 9),.nilCheck (.t 4),none⟩,
  ⟨(some 10),.fieldA 0 (.t 9),none⟩,
  ⟨none,.store 1 (.t 10) (.t 8),none⟩])
 (.region [] [⟨(some 11),.mv (.t 0),none⟩,
  ⟨(some 12),.mv (.t 0),none⟩,
  ⟨(some 13),.nilCheck (.t 12),none⟩,
  ⟨(some 14),.fieldA 4 (.t 13),none⟩,
  ⟨(some 15),.load none (.t 14),none⟩,
  ⟨(some 16),.mv (.t 1),none⟩,
  ⟨(some 17),.mv (.t 0),none⟩,
  ⟨(some 18),.nilCheck (.t 17),none⟩,
  ⟨(some 19),.fieldA 0 (.t 18),none⟩,
  ⟨(some 20),.load none (.t 19),none⟩,
  ⟨(some 21),.build [(.slice none 0 0),(.slice none 0 0),(.int .i64 0)] [(0,1,(.t 16)),(2,1,(.t 20))],none⟩,
  ⟨(some 22),.buildSlice 3 [(.slice none 0 0),(.slice none 0 0),(.int .i64 0)] 1 [(0,3,(.t 21))],none⟩,
  ⟨(some 23),.append 3 56 (.t 15) (.t 22),none⟩,
  ⟨(some 24),.nilCheck (.t 11),none⟩,
  ⟨(some 25),.fieldA 4 (.t 24),none⟩,
  ⟨none,.store 1 (.t 25) (.t 23),none⟩]))⟩
def x62W:XFun:=⟨[.whole],
 (.seq (.region [0,1] [⟨(some 4),.mv (.t 0),none⟩,
  ⟨(some 5),.nilCheck (.t 4),none⟩,
  ⟨(some 6),.fieldA 0 (.t 5),none⟩,
  ⟨(some 7),.load none (.t 6),none⟩,
  ⟨(some 8),.bin .add (.t 7) (.c (.int .i64 1)),none⟩,
  ⟨(some 9),.nilCheck (.t 4),none⟩,
  ⟨(some 10),.fieldA 0 (.t 9),none⟩,
  ⟨none,.store 1 (.t 10) (.t 8),none⟩])
 (.region [] [⟨(some 11),.mv (.t 0),none⟩,
  ⟨(some 12),.mv (.t 0),none⟩,
  ⟨(some 13),.nilCheck (.t 12),none⟩,
  ⟨(some 14),.fieldA 5 (.t 13),none⟩,
  ⟨(some 15),.load none (.t 14),none⟩,
  ⟨(some 16),.mv (.t 1),none⟩,
  ⟨(some 17),.mv (.t 0),none⟩,
  ⟨(some 18),.nilCheck (.t 17),none⟩,
  ⟨(some 19),.fieldA 0 (.t 18),none⟩,
  ⟨(some 20),.load none (.t 19),none⟩,
  ⟨(some 21),.build [(.slice none 0 0),(.slice none 0 0),(.int .i64 0)] [(0,1,(.t 16)),(2,1,(.t 20))],none⟩,
  ⟨(some 22),.buildSlice 3 [(.slice none 0 0),(.slice none 0 0),(.int .i64 0)] 1 [(0,3,(.t 21))],none⟩,
  ⟨(some 23),.append 3 56 (.t 15) (.t 22),none⟩,
  ⟨(some 24),.nilCheck (.t 11),none⟩,
  ⟨(some 25),.fieldA 5 (.t 24),none⟩,
  ⟨none,.store 1 (.t 25) (.t 23),none⟩]))⟩
def x1W:XFun:=⟨[.whole,.tmp 2],
 (.seq (.region [0] [⟨(some 2),.mv (.c (.bool false)),none⟩])
 (.seq (.region [0] [⟨(some 3),.mv (.t 0),none⟩,
  ⟨(some 4),.call .whole 25 [(.t 3)],none⟩])
 (.seq (.region [0] [⟨(some 5),.mv (.t 0),none⟩,
  ⟨(some 6),.call .whole 29 [(.t 5)],none⟩])
 (.seq (.region [0] [⟨(some 7),.mv (.t 0),none⟩,
  ⟨(some 8),.call .whole 33 [(.t 7)],none⟩])
 (.seq (.region [0] [⟨(some 9),.mv (.t 0),none⟩,
  ⟨(some 10),.call .whole 34 [(.t 9)],none⟩])
 (.seq (.region [0] [⟨(some 11),.mv (.t 0),none⟩,
  ⟨(some 12),.call .whole 28 [(.t 11)],none⟩])
 (.seq (.region [0] [⟨(some 13),.mv (.t 0),none⟩,
  ⟨(some 14),.call .whole 24 [(.t 13)],none⟩])
 (.seq (.region [0] [⟨(some 15),.mv (.t 0),none⟩,
  ⟨(some 16),.call .whole 18 [(.t 15)],none⟩])
 (.seq (.region [0] [⟨(some 17),.mv (.t 0),none⟩,
  ⟨(some 18),.call .whole 17 [(.t 17)],none⟩])
 (.seq (.region [0] [⟨(some 19),.mv (.t 0),none⟩,
  ⟨(some 20),.call .whole 23 [(.t 19)],none⟩])
 (.seq (.region [0] [⟨(some 21),.mv (.t 0),none⟩,
  ⟨(some 22),.call .whole 22 [(.t 21)],none⟩])
 (.seq (.region [0] [⟨(some 23),.mv (.t 0),none⟩,
  ⟨(some 24),.call .whole 21 [(.t 23)],none⟩])
 (.seq (.region [0] [⟨(some 25),.mv (.t 0),none⟩,
  ⟨(some 26),.call .whole 32 [(.t 25)],none⟩])
 (.seq (.region [0] [⟨(some 27),.mv (.t 0),none⟩,
  ⟨(some 28),.call .whole 35 [(.t 27)],none⟩])
 (.seq (.region [0] [⟨(some 29),.mv (.t 0),none⟩,
  ⟨(some 30),.call .whole 30 [(.t 29)],none⟩])
 (.seq (.region [0] [⟨(some 31),.mv (.t 0),none⟩,
  ⟨(some 32),.call .whole 26 [(.t 31)],none⟩])
 (.seq (.region [0] [⟨(some 33),.mv (.t 0),none⟩,
  ⟨(some 34),.call .whole 20 [(.t 33)],none⟩])
 (.seq (.region [0] [⟨(some 35),.mv (.t 0),none⟩,
  ⟨(some 36),.call .whole 19 [(.t 35)],none⟩])
 (.seq (.region [0] [⟨(some 37),.mv (.t 0),none⟩,
  ⟨(some 38),.call .whole 27 [(.t 37)],none⟩])
 (.seq (.region [0] [⟨(some 39),.mv (.t 0),none⟩,
  ⟨(some 40),.call .whole 16 [(.t 39)],none⟩])
 (.seq (.region [0] [⟨(some 41),.mv (.t 0),none⟩,
  ⟨(some 42),.call .whole 31 [(.t 41)],none⟩])
 (.seq (.region [0] [⟨(some 43),.mv (.t 0),none⟩,
  ⟨(some 44),.call .whole 45 [(.t 43)],none⟩])
 (.seq (.region [0] [⟨(some 45),.mv (.t 0),none⟩,
  ⟨(some 46),.call .whole 49 [(.t 45)],none⟩])
 (.seq (.region [0] [⟨(some 47),.mv (.t 0),none⟩,
  ⟨(some 48),.call .whole 53 [(.t 47)],none⟩])
 (.seq (.region [0] [⟨(some 49),.mv (.t 0),none⟩,
  ⟨(some 50),.call .whole 54 [(.t 49)],none⟩])
 (.seq (.region [0] [⟨(some 51),.mv (.t 0),none⟩,
  ⟨(some 52),.call .whole 48 [(.t 51)],none⟩])
 (.seq (.region [0] [⟨(some 53),.mv (.t 0),none⟩,
  ⟨(some 54),.call .whole 44 [(.t 53)],none⟩])
 (.seq (.region [0] [⟨(some 55),.mv (.t 0),none⟩,
  ⟨(some 56),.call .whole 38 [(.t 55)],none⟩])
 (.seq (.region [0] [⟨(some 57),.mv (.t 0),none⟩,
  ⟨(some 58),.call .whole 37 [(.t 57)],none⟩])
 (.seq (.region [0] [⟨(some 59),.mv (.t 0),none⟩,
  ⟨(some 60),.call .whole 43 [(.t 59)],none⟩])
 (.seq (.region [0] [⟨(some 61),.mv (.t 0),none⟩,
  ⟨(some 62),.call .whole 42 [(.t 61)],none⟩])
 (.seq (.region [0] [⟨(some 63),.mv (.t 0),none⟩,
  ⟨(some 64),.call .whole 41 [(.t 63)],none⟩])
 (.seq (.region [0] [⟨(some 65),.mv (.t 0),none⟩,
  ⟨(some 66),.call .whole 52 [(.t 65)],none⟩])
 (.seq (.region [0] [⟨(some 67),.mv (.t 0),none⟩,
  ⟨(some 68),.call .whole 55 [(.t 67)],none⟩])
 (.seq (.region [0] [⟨(some 69),.mv (.t 0),none⟩,
  ⟨(some 70),.call .whole 50 [(.t 69)],none⟩])
 (.seq (.region [0] [⟨(some 71),.mv (.t 0),none⟩,
  ⟨(some 72),.call .whole 46 [(.t 71)],none⟩])
 (.seq (.region [0] [⟨(some 73),.mv (.t 0),none⟩,
  ⟨(some 74),.call .whole 40 [(.t 73)],none⟩])
 (.seq (.region [0] [⟨(some 75),.mv (.t 0),none⟩,
  ⟨(some 76),.call .whole 39 [(.t 75)],none⟩])
 (.seq (.region [0] [⟨(some 77),.mv (.t 0),none⟩,
  ⟨(some 78),.call .whole 47 [(.t 77)],none⟩])
 (.seq (.region [0] [⟨(some 79),.mv (.t 0),none⟩,
  ⟨(some 80),.call .whole 36 [(.t 79)],none⟩])
 (.seq (.region [0] [⟨(some 81),.mv (.t 0),none⟩,
  ⟨(some 82),.call .whole 51 [(.t 81)],none⟩])
 (.seq (.region [2] [⟨(some 83),.mv (.t 0),none⟩,
  ⟨(some 84),.call .whole 75 [(.t 83)],none⟩,
  ⟨(some 85),.mv (.t 84),none⟩,
  ⟨(some 86),.mv (.t 0),some (85,true)⟩,
  ⟨(some 87),.call .whole 79 [(.t 86)],some (85,true)⟩,
  ⟨(some 88),.pick (.t 85) (.t 87) (.c (.bool false)),none⟩,
  ⟨(some 89),.mv (.t 88),none⟩,
  ⟨(some 90),.mv (.t 0),some (89,true)⟩,
  ⟨(some 91),.call .whole 83 [(.t 90)],some (89,true)⟩,
  ⟨(some 92),.pick (.t 89) (.t 91) (.c (.bool false)),none⟩,
  ⟨(some 93),.mv (.t 92),none⟩,
  ⟨(some 94),.mv (.t 0),some (93,true)⟩,
  ⟨(some 95),.call .whole 84 [(.t 94)],some (93,true)⟩,
  ⟨(some 96),.pick (.t 93) (.t 95) (.c (.bool false)),none⟩,
  ⟨(some 97),.mv (.t 96),none⟩,
  ⟨(some 98),.mv (.t 0),some (97,true)⟩,
  ⟨(some 99),.call .whole 78 [(.t 98)],some (97,true)⟩,
  ⟨(some 100),.pick (.t 97) (.t 99) (.c (.bool false)),none⟩,
  ⟨(some 101),.mv (.t 100),none⟩,
  ⟨(some 102),.mv (.t 0),some (101,true)⟩,
  ⟨(some 103),.call .whole 74 [(.t 102)],some (101,true)⟩,
  ⟨(some 104),.pick (.t 101) (.t 103) (.c (.bool false)),none⟩,
  ⟨(some 105),.mv (.t 104),none⟩,
  ⟨(some 106),.mv (.t 0),some (105,true)⟩,
  ⟨(some 107),.call .whole 68 [(.t 106)],some (105,true)⟩,
  ⟨(some 108),.pick (.t 105) (.t 107) (.c (.bool false)),none⟩,
  ⟨(some 109),.mv (.t 108),none⟩,
  ⟨(some 110),.mv (.t 0),some (109,true)⟩,
  ⟨(some 111),.call .whole 67 [(.t 110)],some (109,true)⟩,
  ⟨(some 112),.pick (.t 109) (.t 111) (.c (.bool false)),none⟩,
  ⟨(some 113),.mv (.t 112),none⟩,
  ⟨(some 114),.mv (.t 0),some (113,true)⟩,
  ⟨(some 115),.call .whole 73 [(.t 114)],some (113,true)⟩,
  ⟨(some 116),.pick (.t 113) (.t 115) (.c (.bool false)),none⟩,
  ⟨(some 117),.mv (.t 116),none⟩,
  ⟨(some 118),.mv (.t 0),some (117,true)⟩,
  ⟨(some 119),.call .whole 72 [(.t 118)],some (117,true)⟩,
  ⟨(some 120),.pick (.t 117) (.t 119) (.c (.bool false)),none⟩,
  ⟨(some 121),.mv (.t 120),none⟩,
  ⟨(some 122),.mv (.t 0),some (121,true)⟩,
  ⟨(some 123),.call .whole 71 [(.t 122)],some (121,true)⟩,
  ⟨(some 124),.pick (.t 121) (.t 123) (.c (.bool false)),none⟩,
  ⟨(some 125),.mv (.t 124),none⟩,
  ⟨(some 126),.mv (.t 0),some (125,true)⟩,
  ⟨(some 127),.call .whole 82 [(.t 126)],some (125,true)⟩,
  ⟨(some 128),.pick (.t 125) (.t 127) (.c (.bool false)),none⟩,
  ⟨(some 129),.mv (.t 128),none⟩,
  ⟨(some 130),.mv (.t 0),some (129,true)⟩,
  ⟨(some 131),.call .whole 85 [(.t 130)],some (129,true)⟩,
  ⟨(some 132),.pick (.t 129) (.t 131) (.c (.bool false)),none⟩,
  ⟨(some 133),.mv (.t 132),none⟩,
  ⟨(some 134),.mv (.t 0),some (133,true)⟩,
  ⟨(some 135),.call .whole 80 [(.t 134)],some (133,true)⟩,
  ⟨(some 136),.pick (.t 133) (.t 135) (.c (.bool false)),none⟩,
  ⟨(some 137),.mv (.t 136),none⟩,
  ⟨(some 138),.mv (.t 0),some (137,true)⟩,
  ⟨(some 139),.call .whole 76 [(.t 138)],some (137,true)⟩,
  ⟨(some 140),.pick (.t 137) (.t 139) (.c (.bool false)),none⟩,
  ⟨(some 141),.mv (.t 140),none⟩,
  ⟨(some 142),.mv (.t 0),some (141,true)⟩,
  ⟨(some 143),.call .whole 70 [(.t 142)],some (141,true)⟩,
  ⟨(some 144),.pick (.t 141) (.t 143) (.c (.bool false)),none⟩,
  ⟨(some 145),.mv (.t 144),none⟩,
  ⟨(some 146),.mv (.t 0),some (145,true)⟩,
  ⟨(some 147),.call .whole 69 [(.t 146)],some (145,true)⟩,
  ⟨(some 148),.pick (.t 145) (.t 147) (.c (.bool false)),none⟩,
  ⟨(some 149),.mv (.t 148),none⟩,
  ⟨(some 150),.mv (.t 0),some (149,true)⟩,
  ⟨(some 151),.call .whole 77 [(.t 150)],some (149,true)⟩,
  ⟨(some 152),.pick (.t 149) (.t 151) (.c (.bool false)),none⟩,
  ⟨(some 153),.mv (.t 152),none⟩,
  ⟨(some 154),.mv (.t 0),some (153,true)⟩,
  ⟨(some 155),.call .whole 66 [(.t 154)],some (153,true)⟩,
  ⟨(some 156),.pick (.t 153) (.t 155) (.c (.bool false)),none⟩,
  ⟨(some 157),.mv (.t 156),none⟩,
  ⟨(some 158),.mv (.t 0),some (157,true)⟩,
  ⟨(some 159),.call .whole 81 [(.t 158)],some (157,true)⟩,
  ⟨(some 160),.pick (.t 157) (.t 159) (.c (.bool false)),none⟩,
  ⟨(some 2),.mv (.t 160),none⟩])
 .ret))))))))))))))))))))))))))))))))))))))))))⟩
def x25W:XFun:=fillB 1 1 411
def x29W:XFun:=fillB 1 2 415
def x33W:XFun:=fillB 1 3 419
def x34W:XFun:=fillB 2 4 420
def x28W:XFun:=fillB 5 5 414
def x24W:XFun:=fillB 2 6 410
def x18W:XFun:=fillB 3 7 404
def x17W:XFun:=fillB 2 8 403
def x23W:XFun:=fillB 4 9 409
def x22W:XFun:=fillB 8 10 408
def x21W:XFun:=fillB 7 11 407
def x32W:XFun:=fillB 6 12 418
def x35W:XFun:=fillB 4 13 421
def x30W:XFun:=fillB 6 14 416
def x26W:XFun:=fillB 3 15 412
def x20W:XFun:=fillB 2 16 406
def x19W:XFun:=fillB 3 17 405
def x27W:XFun:=fillB 5 18 413
def x16W:XFun:=fillB 6 19 402
def x31W:XFun:=fillB 2 20 417
def x45W:XFun:=growB 1 8 [(.int .i64 0)] 1 411
def x49W:XFun:=growB 1 8 [(.int .i64 0)] 2 415
def x53W:XFun:=growB 1 16 [(.string .empty)] 3 419
def x54W:XFun:=growB 2 16 [(.int .u8 0),(.int .i64 0)] 4 420
def x48W:XFun:=growB 5 64 [(.int .u8 0),(.string .empty),(.slice none 0 0),(.int .i64 0),(.int .i64 0)] 5 414
def x44W:XFun:=growB 2 16 [(.int .u8 0),(.int .i64 0)] 6 410
def x38W:XFun:=growB 3 32 [(.int .u8 0),(.int .i64 0),(.string .empty)] 7 404
def x37W:XFun:=growB 2 16 [(.bool false),(.int .i64 0)] 8 403
def x43W:XFun:=growB 4 32 [(.int .i64 0),(.int .i64 0),(.int .i64 0),(.int .i64 0)] 9 409
def x42W:XFun:=growB 8 152 [(.string .empty),(.int .i64 0),(.int .i64 0),(.slice none 0 0),(.slice none 0 0),(.slice none 0 0),(.slice none 0 0),(.slice none 0 0)] 10 408
def x41W:XFun:=growB 7 112 [(.int .u8 0),(.int .i64 0),(.string .empty),(.slice none 0 0),(.slice none 0 0),(.slice none 0 0),(.int .i64 0)] 11 407
def x52W:XFun:=growB 6 104 [(.int .u8 0),(.string .empty),(.slice none 0 0),(.slice none 0 0),(.slice none 0 0),(.int .i64 0)] 12 418
def x55W:XFun:=growB 4 40 [(.int .u8 0),(.string .empty),(.int .i64 0),(.int .i64 0)] 13 421
def x50W:XFun:=growB 6 64 [(.int .u8 0),(.int .i64 0),(.slice none 0 0),(.int .i64 0),(.int .u8 0),(.int .i64 0)] 14 416
def x46W:XFun:=growB 3 24 [(.int .i64 0),(.int .u8 0),(.int .i64 0)] 15 412
def x40W:XFun:=growB 2 32 [(.int .i64 0),(.slice none 0 0)] 16 406
def x39W:XFun:=growB 3 40 [(.int .i64 0),(.int .i64 0),(.slice none 0 0)] 17 405
def x47W:XFun:=growB 5 56 [(.int .u8 0),(.slice none 0 0),(.int .i64 0),(.int .u8 0),(.int .i64 0)] 18 413
def x36W:XFun:=growB 6 112 [(.slice none 0 0),(.int .u8 0),(.slice none 0 0),(.slice none 0 0),(.slice none 0 0),(.int .i64 0)] 19 402
def x51W:XFun:=growB 2 32 [(.int .i64 0),(.slice none 0 0)] 20 417
def x75WL1:XCode:=
 (.seq (.seq (.region [0,3,4,5,34] [⟨(some 30),.mv (.t 5),none⟩,
  ⟨(some 31),.fieldA 1 (.t 4),none⟩,
  ⟨(some 32),.load none (.t 31),none⟩,
  ⟨(some 33),.len (.t 32),none⟩,
  ⟨(some 34),.bin .lss (.t 30) (.t 33),none⟩])
 (.cond (.t 34)
  .skip
  (.exit 2)))
 (.seq (.block 3 (.seq (.region [0,3,4,5,63] [⟨(some 37),.fieldA 1 (.t 4),none⟩,
  ⟨(some 38),.load none (.t 37),none⟩,
  ⟨(some 39),.mv (.t 5),none⟩,
  ⟨(some 40),.idxA 1 (.t 38) (.t 39),none⟩,
  ⟨(some 41),.load none (.t 40),none⟩,
  ⟨(some 42),.fieldA 2 (.t 4),none⟩,
  ⟨(some 43),.load none (.t 42),none⟩,
  ⟨(some 44),.call .view 391 [(.t 41),(.t 43)],none⟩,
  ⟨(some 45),.un .not (.t 44),none⟩,
  ⟨(some 46),.mv (.t 45),none⟩,
  ⟨(some 47),.mv (.t 5),some (46,false)⟩,
  ⟨(some 48),.fieldA 0 (.t 4),some (46,false)⟩,
  ⟨(some 49),.load none (.t 48),some (46,false)⟩,
  ⟨(some 50),.len (.t 49),some (46,false)⟩,
  ⟨(some 51),.bin .lss (.t 47) (.t 50),some (46,false)⟩,
  ⟨(some 52),.mv (.t 51),some (46,false)⟩,
  ⟨(some 53),.fieldA 0 (.t 4),some (52,true)⟩,
  ⟨(some 54),.load none (.t 53),some (52,true)⟩,
  ⟨(some 55),.mv (.t 5),some (52,true)⟩,
  ⟨(some 56),.idxA 1 (.t 54) (.t 55),some (52,true)⟩,
  ⟨(some 57),.load none (.t 56),some (52,true)⟩,
  ⟨(some 58),.fieldA 2 (.t 4),some (52,true)⟩,
  ⟨(some 59),.load none (.t 58),some (52,true)⟩,
  ⟨(some 60),.call .view 391 [(.t 57),(.t 59)],some (52,true)⟩,
  ⟨(some 61),.un .not (.t 60),some (52,true)⟩,
  ⟨(some 62),.pick (.t 52) (.t 61) (.c (.bool false)),some (46,false)⟩,
  ⟨(some 63),.pick (.t 46) (.c (.bool true)) (.t 62),none⟩])
 (.cond (.t 63)
  (.seq (.region [2] [⟨(some 2),.mv (.c (.bool false)),none⟩])
  .ret)
  .skip)))
 (.region [0,3,4,5] [⟨(some 35),.mv (.t 5),none⟩,
  ⟨(some 36),.bin .add (.t 35) (.c (.int .i64 1)),none⟩,
  ⟨(some 5),.mv (.t 36),none⟩])))
def x75WL2:XCode:=
 (.seq (.seq (.region [0,3,12] [⟨(some 6),.mv (.t 3),none⟩,
  ⟨(some 7),.mv (.t 0),none⟩,
  ⟨(some 8),.nilCheck (.t 7),none⟩,
  ⟨(some 9),.fieldA 1 (.t 8),none⟩,
  ⟨(some 10),.load none (.t 9),none⟩,
  ⟨(some 11),.len (.t 10),none⟩,
  ⟨(some 12),.bin .lss (.t 6) (.t 11),none⟩])
 (.cond (.t 12)
  .skip
  (.exit 0)))
 (.seq (.block 1 (.seq (.region [0,3,4] [⟨(some 15),.mv (.t 0),none⟩,
  ⟨(some 16),.nilCheck (.t 15),none⟩,
  ⟨(some 17),.fieldA 1 (.t 16),none⟩,
  ⟨(some 18),.load none (.t 17),none⟩,
  ⟨(some 19),.mv (.t 3),none⟩,
  ⟨(some 20),.idxA 3 (.t 18) (.t 19),none⟩,
  ⟨(some 21),.load (some 3) (.t 20),none⟩,
  ⟨(some 4),.alloc [(.slice none 0 0),(.slice none 0 0),(.int .i64 0)],none⟩,
  ⟨none,.store 3 (.t 4) (.t 21),none⟩])
 (.seq (.seq (.region [0,3,4,29] [⟨(some 22),.fieldA 1 (.t 4),none⟩,
  ⟨(some 23),.load none (.t 22),none⟩,
  ⟨(some 24),.len (.t 23),none⟩,
  ⟨(some 25),.fieldA 0 (.t 4),none⟩,
  ⟨(some 26),.load none (.t 25),none⟩,
  ⟨(some 27),.len (.t 26),none⟩,
  ⟨(some 28),.bin .add (.t 27) (.c (.int .i64 40)),none⟩,
  ⟨(some 29),.bin .neq (.t 24) (.t 28),none⟩])
 (.cond (.t 29)
  (.seq (.region [2] [⟨(some 2),.mv (.c (.bool false)),none⟩])
  .ret)
  .skip))
 (.seq (.region [0,3,4,5] [⟨(some 5),.mv (.c (.int .i64 0)),none⟩])
 (.block 2 (.loop [1000000,0,3,4,5] x75WL1))))))
 (.region [0,3] [⟨(some 13),.mv (.t 3),none⟩,
  ⟨(some 14),.bin .add (.t 13) (.c (.int .i64 1)),none⟩,
  ⟨(some 3),.mv (.t 14),none⟩])))
def x75W:XFun:=⟨[.whole,.tmp 2],
 (.seq (.region [0] [⟨(some 2),.mv (.c (.bool false)),none⟩])
 (.seq (.seq (.region [0,3] [⟨(some 3),.mv (.c (.int .i64 0)),none⟩])
 (.block 0 (.loop [1000000,0,3] x75WL2)))
 (.seq (.region [2] [⟨(some 2),.mv (.c (.bool true)),none⟩])
 .ret)))⟩
def x79WL1:XCode:=
 (.seq (.seq (.region [0,3,4,5,34] [⟨(some 30),.mv (.t 5),none⟩,
  ⟨(some 31),.fieldA 1 (.t 4),none⟩,
  ⟨(some 32),.load none (.t 31),none⟩,
  ⟨(some 33),.len (.t 32),none⟩,
  ⟨(some 34),.bin .lss (.t 30) (.t 33),none⟩])
 (.cond (.t 34)
  .skip
  (.exit 2)))
 (.seq (.block 3 (.seq (.region [0,3,4,5,63] [⟨(some 37),.fieldA 1 (.t 4),none⟩,
  ⟨(some 38),.load none (.t 37),none⟩,
  ⟨(some 39),.mv (.t 5),none⟩,
  ⟨(some 40),.idxA 1 (.t 38) (.t 39),none⟩,
  ⟨(some 41),.load none (.t 40),none⟩,
  ⟨(some 42),.fieldA 2 (.t 4),none⟩,
  ⟨(some 43),.load none (.t 42),none⟩,
  ⟨(some 44),.call .view 395 [(.t 41),(.t 43)],none⟩,
  ⟨(some 45),.un .not (.t 44),none⟩,
  ⟨(some 46),.mv (.t 45),none⟩,
  ⟨(some 47),.mv (.t 5),some (46,false)⟩,
  ⟨(some 48),.fieldA 0 (.t 4),some (46,false)⟩,
  ⟨(some 49),.load none (.t 48),some (46,false)⟩,
  ⟨(some 50),.len (.t 49),some (46,false)⟩,
  ⟨(some 51),.bin .lss (.t 47) (.t 50),some (46,false)⟩,
  ⟨(some 52),.mv (.t 51),some (46,false)⟩,
  ⟨(some 53),.fieldA 0 (.t 4),some (52,true)⟩,
  ⟨(some 54),.load none (.t 53),some (52,true)⟩,
  ⟨(some 55),.mv (.t 5),some (52,true)⟩,
  ⟨(some 56),.idxA 1 (.t 54) (.t 55),some (52,true)⟩,
  ⟨(some 57),.load none (.t 56),some (52,true)⟩,
  ⟨(some 58),.fieldA 2 (.t 4),some (52,true)⟩,
  ⟨(some 59),.load none (.t 58),some (52,true)⟩,
  ⟨(some 60),.call .view 395 [(.t 57),(.t 59)],some (52,true)⟩,
  ⟨(some 61),.un .not (.t 60),some (52,true)⟩,
  ⟨(some 62),.pick (.t 52) (.t 61) (.c (.bool false)),some (46,false)⟩,
  ⟨(some 63),.pick (.t 46) (.c (.bool true)) (.t 62),none⟩])
 (.cond (.t 63)
  (.seq (.region [2] [⟨(some 2),.mv (.c (.bool false)),none⟩])
  .ret)
  .skip)))
 (.region [0,3,4,5] [⟨(some 35),.mv (.t 5),none⟩,
  ⟨(some 36),.bin .add (.t 35) (.c (.int .i64 1)),none⟩,
  ⟨(some 5),.mv (.t 36),none⟩])))
def x79WL2:XCode:=
 (.seq (.seq (.region [0,3,12] [⟨(some 6),.mv (.t 3),none⟩,
  ⟨(some 7),.mv (.t 0),none⟩,
  ⟨(some 8),.nilCheck (.t 7),none⟩,
  ⟨(some 9),.fieldA 2 (.t 8),none⟩,
  ⟨(some 10),.load none (.t 9),none⟩,
  ⟨(some 11),.len (.t 10),none⟩,
  ⟨(some 12),.bin .lss (.t 6) (.t 11),none⟩])
 (.cond (.t 12)
  .skip
  (.exit 0)))
 (.seq (.block 1 (.seq (.region [0,3,4] [⟨(some 15),.mv (.t 0),none⟩,
  ⟨(some 16),.nilCheck (.t 15),none⟩,
  ⟨(some 17),.fieldA 2 (.t 16),none⟩,
  ⟨(some 18),.load none (.t 17),none⟩,
  ⟨(some 19),.mv (.t 3),none⟩,
  ⟨(some 20),.idxA 3 (.t 18) (.t 19),none⟩,
  ⟨(some 21),.load (some 3) (.t 20),none⟩,
  ⟨(some 4),.alloc [(.slice none 0 0),(.slice none 0 0),(.int .i64 0)],none⟩,
  ⟨none,.store 3 (.t 4) (.t 21),none⟩])
 (.seq (.seq (.region [0,3,4,29] [⟨(some 22),.fieldA 1 (.t 4),none⟩,
  ⟨(some 23),.load none (.t 22),none⟩,
  ⟨(some 24),.len (.t 23),none⟩,
  ⟨(some 25),.fieldA 0 (.t 4),none⟩,
  ⟨(some 26),.load none (.t 25),none⟩,
  ⟨(some 27),.len (.t 26),none⟩,
  ⟨(some 28),.bin .add (.t 27) (.c (.int .i64 40)),none⟩,
  ⟨(some 29),.bin .neq (.t 24) (.t 28),none⟩])
 (.cond (.t 29)
  (.seq (.region [2] [⟨(some 2),.mv (.c (.bool false)),none⟩])
  .ret)
  .skip))
 (.seq (.region [0,3,4,5] [⟨(some 5),.mv (.c (.int .i64 0)),none⟩])
 (.block 2 (.loop [1000000,0,3,4,5] x79WL1))))))
 (.region [0,3] [⟨(some 13),.mv (.t 3),none⟩,
  ⟨(some 14),.bin .add (.t 13) (.c (.int .i64 1)),none⟩,
  ⟨(some 3),.mv (.t 14),none⟩])))
def x79W:XFun:=⟨[.whole,.tmp 2],
 (.seq (.region [0] [⟨(some 2),.mv (.c (.bool false)),none⟩])
 (.seq (.seq (.region [0,3] [⟨(some 3),.mv (.c (.int .i64 0)),none⟩])
 (.block 0 (.loop [1000000,0,3] x79WL2)))
 (.seq (.region [2] [⟨(some 2),.mv (.c (.bool true)),none⟩])
 .ret)))⟩
def x83WL1:XCode:=
 (.seq (.seq (.region [0,3,4,5,34] [⟨(some 30),.mv (.t 5),none⟩,
  ⟨(some 31),.fieldA 1 (.t 4),none⟩,
  ⟨(some 32),.load none (.t 31),none⟩,
  ⟨(some 33),.len (.t 32),none⟩,
  ⟨(some 34),.bin .lss (.t 30) (.t 33),none⟩])
 (.cond (.t 34)
  .skip
  (.exit 2)))
 (.seq (.block 3 (.seq (.region [0,3,4,5,63] [⟨(some 37),.fieldA 1 (.t 4),none⟩,
  ⟨(some 38),.load none (.t 37),none⟩,
  ⟨(some 39),.mv (.t 5),none⟩,
  ⟨(some 40),.idxA 1 (.t 38) (.t 39),none⟩,
  ⟨(some 41),.load none (.t 40),none⟩,
  ⟨(some 42),.fieldA 2 (.t 4),none⟩,
  ⟨(some 43),.load none (.t 42),none⟩,
  ⟨(some 44),.call .view 399 [(.t 41),(.t 43)],none⟩,
  ⟨(some 45),.un .not (.t 44),none⟩,
  ⟨(some 46),.mv (.t 45),none⟩,
  ⟨(some 47),.mv (.t 5),some (46,false)⟩,
  ⟨(some 48),.fieldA 0 (.t 4),some (46,false)⟩,
  ⟨(some 49),.load none (.t 48),some (46,false)⟩,
  ⟨(some 50),.len (.t 49),some (46,false)⟩,
  ⟨(some 51),.bin .lss (.t 47) (.t 50),some (46,false)⟩,
  ⟨(some 52),.mv (.t 51),some (46,false)⟩,
  ⟨(some 53),.fieldA 0 (.t 4),some (52,true)⟩,
  ⟨(some 54),.load none (.t 53),some (52,true)⟩,
  ⟨(some 55),.mv (.t 5),some (52,true)⟩,
  ⟨(some 56),.idxA 1 (.t 54) (.t 55),some (52,true)⟩,
  ⟨(some 57),.load none (.t 56),some (52,true)⟩,
  ⟨(some 58),.fieldA 2 (.t 4),some (52,true)⟩,
  ⟨(some 59),.load none (.t 58),some (52,true)⟩,
  ⟨(some 60),.call .view 399 [(.t 57),(.t 59)],some (52,true)⟩,
  ⟨(some 61),.un .not (.t 60),some (52,true)⟩,
  ⟨(some 62),.pick (.t 52) (.t 61) (.c (.bool false)),some (46,false)⟩,
  ⟨(some 63),.pick (.t 46) (.c (.bool true)) (.t 62),none⟩])
 (.cond (.t 63)
  (.seq (.region [2] [⟨(some 2),.mv (.c (.bool false)),none⟩])
  .ret)
  .skip)))
 (.region [0,3,4,5] [⟨(some 35),.mv (.t 5),none⟩,
  ⟨(some 36),.bin .add (.t 35) (.c (.int .i64 1)),none⟩,
  ⟨(some 5),.mv (.t 36),none⟩])))
def x83WL2:XCode:=
 (.seq (.seq (.region [0,3,12] [⟨(some 6),.mv (.t 3),none⟩,
  ⟨(some 7),.mv (.t 0),none⟩,
  ⟨(some 8),.nilCheck (.t 7),none⟩,
  ⟨(some 9),.fieldA 3 (.t 8),none⟩,
  ⟨(some 10),.load none (.t 9),none⟩,
  ⟨(some 11),.len (.t 10),none⟩,
  ⟨(some 12),.bin .lss (.t 6) (.t 11),none⟩])
 (.cond (.t 12)
  .skip
  (.exit 0)))
 (.seq (.block 1 (.seq (.region [0,3,4] [⟨(some 15),.mv (.t 0),none⟩,
  ⟨(some 16),.nilCheck (.t 15),none⟩,
  ⟨(some 17),.fieldA 3 (.t 16),none⟩,
  ⟨(some 18),.load none (.t 17),none⟩,
  ⟨(some 19),.mv (.t 3),none⟩,
  ⟨(some 20),.idxA 3 (.t 18) (.t 19),none⟩,
  ⟨(some 21),.load (some 3) (.t 20),none⟩,
  ⟨(some 4),.alloc [(.slice none 0 0),(.slice none 0 0),(.int .i64 0)],none⟩,
  ⟨none,.store 3 (.t 4) (.t 21),none⟩])
 (.seq (.seq (.region [0,3,4,29] [⟨(some 22),.fieldA 1 (.t 4),none⟩,
  ⟨(some 23),.load none (.t 22),none⟩,
  ⟨(some 24),.len (.t 23),none⟩,
  ⟨(some 25),.fieldA 0 (.t 4),none⟩,
  ⟨(some 26),.load none (.t 25),none⟩,
  ⟨(some 27),.len (.t 26),none⟩,
  ⟨(some 28),.bin .add (.t 27) (.c (.int .i64 40)),none⟩,
  ⟨(some 29),.bin .neq (.t 24) (.t 28),none⟩])
 (.cond (.t 29)
  (.seq (.region [2] [⟨(some 2),.mv (.c (.bool false)),none⟩])
  .ret)
  .skip))
 (.seq (.region [0,3,4,5] [⟨(some 5),.mv (.c (.int .i64 0)),none⟩])
 (.block 2 (.loop [1000000,0,3,4,5] x83WL1))))))
 (.region [0,3] [⟨(some 13),.mv (.t 3),none⟩,
  ⟨(some 14),.bin .add (.t 13) (.c (.int .i64 1)),none⟩,
  ⟨(some 3),.mv (.t 14),none⟩])))
def x83W:XFun:=⟨[.whole,.tmp 2],
 (.seq (.region [0] [⟨(some 2),.mv (.c (.bool false)),none⟩])
 (.seq (.seq (.region [0,3] [⟨(some 3),.mv (.c (.int .i64 0)),none⟩])
 (.block 0 (.loop [1000000,0,3] x83WL2)))
 (.seq (.region [2] [⟨(some 2),.mv (.c (.bool true)),none⟩])
 .ret)))⟩
def x84W:XFun:=lookB 2 4 400
def x78W:XFun:=lookB 5 5 394
def x74W:XFun:=lookB 2 6 390
def x68W:XFun:=lookB 3 7 384
def x67W:XFun:=lookB 2 8 383
def x73W:XFun:=lookB 4 9 389
def x72W:XFun:=lookB 8 10 388
def x71W:XFun:=lookB 7 11 387
def x82W:XFun:=lookB 6 12 398
def x85W:XFun:=lookB 4 13 401
def x80W:XFun:=lookB 6 14 396
def x76W:XFun:=lookB 3 15 392
def x70W:XFun:=lookB 2 16 386
def x69W:XFun:=lookB 3 17 385
def x77W:XFun:=lookB 5 18 393
def x66W:XFun:=lookB 6 19 382
def x81W:XFun:=lookB 2 20 397
end Go.EX


set_option linter.unusedVariables false
set_option linter.unusedSimpArgs false
namespace Go.EX
attribute [simp] List.range_succ funOut zee zec zed zd9 zea zef zd8 blockOut andThen exOps exOne exOp Env.ev Env.get Env.keep enter AV.cells fresh loadAt getCells getCellsI valBin boolBin intBin shiftBin strBin valUn intOf bndOf bounds
 storeAt imms leave XRes.outs XRes.asIs keepAll exWhole resOf wrapRes order reach Mem.refs AObj.refs AV.refs AV.refs.refsL Mem.pickAll AObj.ren AV.ren AV.ren.renL place fillAll mkObj imZ sameCells St.tidy Env.roots Env.ren AV.plain1 AV.plain2 AV.plain AV.own1 AV.own2 AV.own IV.plain AObj.own AObj.live AV.isImm exView exOwn exShare shareOk AObj.isFix exPeek exLook frz frz.frz1 frzV AObj.moved AObj.orMoved shareAt St.scrub isKeyAV zeroAV
@[simp] theorem lenOf_nil:lenOf (.imm (.val (.slice none 0 0)))=some 0:=rfl
@[simp] theorem lenOf_slice(row:List IV)(off len:Nat)(cap:Option Nat):lenOf (.imm (.slice row off len cap))=some len:=rfl
@[simp] theorem lenOf_osl(id off sz len:Nat)(cap:Option Nat):lenOf (.osl id off sz len cap)=some len:=rfl
@[simp] theorem capOf_slice(row:List IV)(off len:Nat)(cap:Option Nat):capOf (.imm (.slice row off len cap))=cap:=rfl
@[simp] theorem capOf_osl(id off sz len:Nat)(cap:Option Nat):capOf (.osl id off sz len cap)=cap:=rfl
@[simp] theorem isNil_slice(row:List IV)(off len:Nat)(cap:Option Nat):isNil (.imm (.slice row off len cap))=some false:=rfl
@[simp] theorem isNil_ptr(row:List IV)(off:Nat):isNil (.imm (.ptr row off))=some false:=rfl
@[simp] theorem isNil_osl(id off sz len:Nat)(cap:Option Nat):isNil (.osl id off sz len cap)=some false:=rfl
@[simp] theorem isNil_optr(id off:Nat):isNil (.optr id off)=some false:=rfl
@[simp] theorem isNil_omap(id:Nat):isNil (.omap id)=some false:=rfl
@[simp] theorem isNil_pnone:isNil (.imm (.val (.pointer none)))=some true:=rfl
@[simp] theorem isNilK_snone:isNilK 0 (.imm (.val (.slice none 0 0)))=some true:=rfl
@[simp] theorem isNilK_slice(row:List IV)(off len:Nat)(cap:Option Nat):isNilK 0 (.imm (.slice row off len cap))=some false:=rfl
@[simp] theorem isNilK_osl(id off sz len:Nat)(cap:Option Nat):isNilK 0 (.osl id off sz len cap)=some false:=rfl
@[simp] theorem isNilK_pnone:isNilK 1 (.imm (.val (.pointer none)))=some true:=rfl
@[simp] theorem isNilK_ptr(row:List IV)(off:Nat):isNilK 1 (.imm (.ptr row off))=some false:=rfl
@[simp] theorem isNilK_optr(id off:Nat):isNilK 1 (.optr id off)=some false:=rfl
@[simp] theorem int_beq(a b:Int):(a==b)=decide (a=b):=by by_cases h:a=b<;>simp[h]
theorem zb1{a b:ByteArray}(h:a.toList=b.toList):a=b:=by
 have e:∀c:ByteArray,c.toList=c.data.toList:=ByteArray.toList_eq
 rw[e,e]at h
 cases a;cases b
 simp at h
 exact congrArg ByteArray.mk h
@[simp] theorem bytes_beq(a b:ByteArray):(a.toList==b.toList)=decide (a=b):=by
 by_cases h:a=b
 ·subst h;simp
 ·have:a.toList≠b.toList:=fun e=>h (zb1 e)
  simp[h,this]
@[simp] theorem cut_zero{β:Type}(l:List β):cut l 0 0=some []:=by simp[cut]
@[simp] theorem cut_cons_zero{β:Type}(x:β)(l:List β)(n:Nat):cut (x::l) 0 (n+1)=(cut l 0 n).map (x:: ·):=by
 simp only[cut,List.drop_zero,List.take_succ_cons,List.length_cons]
 by_cases h:(l.take n).length=n
 ·rw[if_pos h,if_pos (by omega)];rfl
 ·rw[if_neg h,if_neg (by omega)];rfl
@[simp] theorem cut_cons_succ{β:Type}(x:β)(l:List β)(o n:Nat):cut (x::l) (o+1) n=cut l o n:=by simp[cut]
@[simp] theorem setAll_nil{β:Type}(l:List β)(o:Nat):setAll l o []=l:=rfl
@[simp] theorem setAll_cons_succ{β:Type}(x:β):∀(ys l:List β) (o:Nat),setAll (x::l) (o+1) ys=x::setAll l o ys
 |[],l,o=>rfl
 |y::ys,l,o=>by rw[setAll,List.set_cons_succ,setAll_cons_succ x ys];rfl
@[simp] theorem setAll_cons_zero{β:Type}(x y:β)(l ys:List β):setAll (x::l) 0 (y::ys)=y::setAll l 0 ys:=by
 rw[setAll,List.set_cons_zero,setAll_cons_succ]
@[simp] theorem imms_imm:∀(l:List IV),imms (l.map .imm)=some l
 |[]=>rfl
 |x::l=>by simp[imms,imms_imm l]
@[simp] theorem copies_0{β:Type}(l:List β):copies 0 l=[]:=rfl
@[simp] theorem copies_1{β:Type}(l:List β):copies 1 l=l:=by simp[copies]
@[simp] theorem copies_2{β:Type}(l:List β):copies 2 l=l++l:=by simp[copies]
@[simp] theorem copies_3{β:Type}(l:List β):copies 3 l=l++(l++l):=by simp[copies]
@[simp] theorem copies_4{β:Type}(l:List β):copies 4 l=l++(l++(l++l)):=by simp[copies]
def Ty.row{α:Type}(t:Ty α)(xs:List α):List IV:=xs.flatMap t.enc
abbrev nilS:AV:=.imm (.val (.slice none 0 0))
abbrev int64(n:Int):AV:=.imm (.val (.int .i64 n))
abbrev avb(b:Bool):AV:=.imm (.val (.bool b))
theorem zjp{code:Nat→Option XFun}{ext:Calls'}{keep:List Nat}{b:XCode}(I:Nat→St→Prop)(Q:XExit→St→Prop)
  (h:∀n s,I n s→∃e s',den code ext b (s.tidy keep)=some (e,s')∧((e=.normal∧∃m,m<n∧I m s')∨(e≠ .normal∧Q e s'))):∀n s,I n s→∃e s',den code ext (.loop keep b) s=some (e,s')∧e≠ .normal∧Q e s':=by
 intro n
 induction n using Nat.strongRecOn with
 |ind n ih=>
  intro s hs
  obtain⟨e,s',h1,h2⟩:=h n s hs
  rw[zeb,h1]
  rcases h2 with⟨rfl,m,hm,hI⟩|⟨hne,hq⟩
  ·exact ih m hm s' hI
  ·refine⟨e,s',?_,hne,hq⟩
   cases e with
   |normal=>exact absurd rfl hne
   |exit id=>rfl
   |ret=>rfl
theorem wrapI64{x:Int}(h1: -9223372036854775808≤x)(h2:x≤9223372036854775807):IntKind.wrap .i64 x=x:=by
 simp only[IntKind.wrap,IntKind.signed,IntKind.bits]
 simp
 omega
theorem wrapU8{x:Int}(h1:0≤x)(h2:x≤255):IntKind.wrap .u8 x=x:=by
 simp only[IntKind.wrap,IntKind.signed,IntKind.bits]
 simp
 omega
theorem wfI64{n:Int}:(tInt .i64).wf n↔ -9223372036854775808≤n∧n≤9223372036854775807:=by
 simp[tInt,Lit.wf,IntKind.min,IntKind.max,IntKind.signed,IntKind.bits]
theorem wfU8{n:Int}:(tInt .u8).wf n↔0≤n∧n≤255:=by
 simp[tInt,Lit.wf,IntKind.min,IntKind.max,IntKind.signed,IntKind.bits]
section
variable {α:Type} {t:Ty α} {iv:IV} {xs:List α}
theorem zpr(h:Reads t iv xs):lenOf (.imm iv)=some xs.length:=by
 obtain⟨_,_,⟨rfl,rfl⟩|⟨row,off,cap,rfl,_⟩⟩:=h
 ·rfl
 ·rfl
theorem zd5{β:Type}{l:List β}{o n:Nat}{r:List β}(h:cut l o n=some r):r=(l.drop o).take n∧r.length=n:=by
 unfold cut at h
 dsimp only at h
 split at h
 ·rename_i h1;cases h;exact⟨rfl,h1⟩
 ·cases h
theorem cut_mk{β:Type}{l:List β}{o n:Nat}{r:List β}(h:(l.drop o).take n=r)(hl:r.length=n):cut l o n=some r:=by
 unfold cut
 dsimp only
 rw[h,if_pos hl]
theorem zdx{β:Type}{l:List β}{o n:Nat}{r:List β}(h:cut l o n=some r){a b:Nat}(hab:a+b≤n):cut l (o+a) b=cut r a b:=by
 obtain⟨rfl,hl⟩:=zd5 h
 unfold cut
 dsimp only
 rw[List.drop_take,List.drop_drop,List.take_take]
 have:min b (n-a)=b:=by omega
 rw[this]
theorem zgf(h0:∀x,(t.enc x).length=t.sz):∀(xs:List α) (i k:Nat),i+k≤xs.length→cut (xs.flatMap t.enc) (i*t.sz) (k*t.sz)=some (((xs.drop i).take k).flatMap t.enc):=by
 intro xs i k hk
 refine cut_mk ?_ ?_
 ·have hdrop:∀(i:Nat) (l:List α),(l.flatMap t.enc).drop (i*t.sz)=(l.drop i).flatMap t.enc:=by
   intro i
   induction i with
   |zero=>intro l;simp
   |succ i ih=>
    intro l
    cases l with
    |nil=>simp
    |cons x l=>
     rw[List.flatMap_cons,Nat.add_mul,Nat.one_mul,Nat.add_comm,List.drop_append]
     have hx:=h0 x
     rw[List.drop_eq_nil_of_le (by omega)]
     have:t.sz+i*t.sz-(t.enc x).length=i*t.sz:=by omega
     rw[this,ih];simp
  have htake:∀(k:Nat) (l:List α),(l.flatMap t.enc).take (k*t.sz)=(l.take k).flatMap t.enc:=by
   intro k
   induction k with
   |zero=>intro l;simp
   |succ i ih=>
    intro l
    cases l with
    |nil=>simp
    |cons x l=>
     rw[List.flatMap_cons,Nat.add_mul,Nat.one_mul,Nat.add_comm,List.take_append]
     have hx:=h0 x
     rw[List.take_of_length_le (by omega)]
     have:t.sz+i*t.sz-(t.enc x).length=i*t.sz:=by omega
     rw[this,ih];simp
  rw[hdrop,htake]
 ·rw[zgh _ _ h0]
  simp only[List.length_take,List.length_drop]
  congr 1
  omega
theorem zrn(t:Ty α)(xs:List α):(t.row xs).length=xs.length*t.sz:=zgh _ _ t.len xs
theorem zd4(t:Ty α)(xs:List α):cut (t.row xs) 0 (xs.length*t.sz)=some (t.row xs):=zdv _ (zrn t xs)
theorem zrm(t:Ty α)(xs ys:List α):t.row (xs++ys)=t.row xs++t.row ys:=by simp[Ty.row]
theorem zgi{i:Nat}{x:α}(hx:xs[i]?=some x):cut (t.row xs) (i*t.sz) t.sz=some (t.enc x):=by
 obtain⟨hi,hxi⟩:=List.getElem?_eq_some_iff.1 hx
 have:=zgf t.len xs i 1 hi
 rw[Nat.one_mul]at this
 rw[Ty.row,this,List.drop_eq_getElem_cons hi,hxi]
 simp
theorem zps(h:Reads t iv xs){i:Nat}{x:α}(hx:xs[i]?=some x):∃row off cap,iv=.slice row off xs.length cap∧(∀c,cap=some c→xs.length≤c)∧cut row off (xs.length*t.sz)=some (xs.flatMap t.enc)∧
  cut row (off+i*t.sz) t.sz=some (t.enc x):=by
 obtain⟨_,_,⟨rfl,rfl⟩|⟨row,off,cap,rfl,hc,hcut⟩⟩:=h
 ·simp at hx
 ·refine⟨row,off,cap,rfl,hc,hcut,?_⟩
  have hi:=(List.getElem?_eq_some_iff.1 hx)
  obtain⟨hi,hxi⟩:=hi
  have:i*t.sz+t.sz≤xs.length*t.sz:=by
   rw[←Nat.succ_mul];exact Nat.mul_le_mul_right _ hi
  rw[zdx hcut this]
  have:=zgf t.len xs i 1 hi
  rw[Nat.one_mul]at this
  rw[this]
  congr 1
  rw[List.drop_eq_getElem_cons hi,hxi]
  simp
theorem zd2{β:Type}{l:List β}{o:Nat}{y:β}(h:cut l o 1=some [y]):l[o]?=some y:=by
 obtain⟨h1,_⟩:=zd5 h
 have:((l.drop o).take 1)[0]?=some y:=by rw[←h1];rfl
 rw[List.getElem?_take,if_pos (by omega),List.getElem?_drop]at this
 simpa using this
theorem zpt(t:Ty α)(xs:List α){cap:Option Nat}(hw:∀x∈xs,t.wf x)(hl:xs.length≤140737488355328)(hc:∀c,cap=some c→xs.length≤c):Reads t (.slice (t.row xs) 0 xs.length cap) xs:=
 ⟨hw,hl,.inr ⟨_,0,cap,rfl,hc,zdv _ (zrn t xs)⟩⟩
theorem zew(m:Mem)(h:Reads t iv xs):elems m t.sz (.imm iv)=some (xs.length,t.row xs):=by
 obtain⟨hw,hm,⟨rfl,rfl⟩|⟨row,off,cap,rfl,hc,hcut⟩⟩:=h
 ·rfl
 ·simp only[elems,hcut,Option.map_some,Ty.row]
theorem zs8{β:Type}:∀(l ys:List β),l.length=ys.length→setAll l 0 ys=ys:=by
 intro l ys h
 refine List.ext_getElem? fun j=>?_
 rw[zs5]
 split
 ·simp
 ·rename_i hn
  have:ys.length≤j:=by omega
  rw[List.getElem?_eq_none (by omega),List.getElem?_eq_none this]
theorem zs3{β:Type}:∀(ys l:List β) (o j:Nat),o+ys.length≤l.length→(setAll l o ys)[j]?=if o≤j∧j<o+ys.length then ys[j-o]? else l[j]?
 |[],l,o,j,h=>by simp[setAll];omega
 |y::ys,l,o,j,h=>by
  simp only[List.length_cons]at h ⊢
  rw[setAll,zs3 ys (l.set o y) (o+1) j (by rw[List.length_set];omega),List.getElem?_set]
  by_cases h1:o=j
  ·subst h1
   have e1:¬(o+1≤o∧o<o+1+ys.length):=by omega
   rw[if_neg e1,if_pos rfl,if_pos (by omega),if_pos (by omega)]
   simp
  ·by_cases h2:o+1≤j∧j<o+1+ys.length
   ·have e3:j-o=(j-(o+1))+1:=by omega
    rw[if_pos h2,if_pos (by omega),e3]
    simp
   ·rw[if_neg h2,if_neg h1,if_neg (by omega)]
theorem zs4(h0:0<t.sz){i:Nat}(hi:i<xs.length)(x:α):setAll (t.row xs) (i*t.sz) (t.enc x)=t.row (xs.set i x):=by
 unfold Ty.row
 have hle:i*t.sz+(t.enc x).length≤(xs.flatMap t.enc).length:=by
  rw[zgh _ _ t.len,t.len,←Nat.succ_mul]
  exact Nat.mul_le_mul_right _ hi
 refine List.ext_getElem? fun j=>?_
 rw[zs3 _ _ _ _ hle,zgg _ _ h0 t.len,zgg _ _ h0 t.len,t.len,List.getElem?_set]
 by_cases h:i*t.sz≤j∧j<i*t.sz+t.sz
 ·have h1:j / t.sz=i:=by
   exact Nat.div_eq_of_lt_le h.1 (by rw[Nat.add_mul,Nat.one_mul];exact h.2)
  have h2:j%t.sz=j-i*t.sz:=by
   have:=Nat.div_add_mod j t.sz
   rw[h1,Nat.mul_comm]at this
   omega
  rw[if_pos h,h1,h2,if_pos rfl,if_pos hi];rfl
 ·have h1:¬(i=j / t.sz):=by
   intro e
   have h2:=Nat.div_add_mod j t.sz
   have h3:=Nat.mod_lt j h0
   rw[←e,Nat.mul_comm]at h2
   omega
  rw[if_neg h,if_neg h1]
theorem zdp(n:Nat)(x:α):copies n (t.enc x)=t.row (List.replicate n x):=by
 unfold Ty.row
 induction n with
 |zero=>rfl
 |succ n ih=>simp[copies,List.replicate_succ,ih]
end
end Go.EX


namespace Go.EX
structure Val where
 k:Int
 n:Int
 deriving DecidableEq
def tVal:Ty Val:=⟨2,true,fun v=>[.val (.int .u8 v.k),.val (.int .i64 v.n)],fun v=>(tInt .u8).wf v.k∧(tInt .i64).wf v.n,fun _=>rfl⟩
abbrev zVal:Val:=⟨0,0⟩
structure Obj where
 k:Int
 s:ByteArray
 l:Sl tVal
 room:Int
 fn:Int
def tObj:Ty Obj:=⟨5,true,fun o=>[.val (.int .u8 o.k),.val (.string o.s),o.l.iv,.val (.int .i64 o.room),.val (.int .i64 o.fn)],
 fun o=>(tInt .u8).wf o.k∧tStr.wf o.s∧(tInt .i64).wf o.room∧(tInt .i64).wf o.fn,fun _=>rfl⟩
end Go.EX


namespace Go.EX
section
variable {code:Nat→Option XFun} {ext:Calls'} {M:Mem} {b:Nat} {B:List AV}
theorem zmi{g sz f mk:Nat}(h:code g=some (fillB sz f mk))(hM:M[b]?=some (.rich B))(hB:B[f]?=some (.imm (.val (.slice none 0 0)))):callW code ext g [.optr b 0] M=some (.tup [],M):=by
 rw[zb5 code ext h]
 simp -implicitDefEqProofs [fillB,fillBL2,zeb,hM,hB]
theorem zmj{g sz by_ f mk:Nat}{zs:List Value}(h:code g=some (growB sz by_ zs f mk))(hM:M[b]?=some (.rich B))(hB:B[f]?=some (.imm (.val (.slice none 0 0)))):callW code ext g [.optr b 0] M=some (.tup [],M):=by
 rw[zb5 code ext h]
 simp -implicitDefEqProofs [growB,growBL2,zeb,hM,hB]
theorem zmk{g sz f isn:Nat}(h:code g=some (lookB sz f isn))(hM:M[b]?=some (.rich B))(hB:B[f]?=some (.imm (.val (.slice none 0 0)))):callW code ext g [.optr b 0] M=some (avb true,M):=by
 rw[zb5 code ext h]
 simp -implicitDefEqProofs [lookB,lookBL2,zeb,hM,hB]
theorem zk8(h:code 25=some x25W)(hM:M[b]?=some (.rich B))(hB:B[1]?=some (.imm (.val (.slice none 0 0)))):callW code ext 25 [.optr b 0] M=some (.tup [],M):=
 zmi (sz:=1) (f:=1) (mk:=411) h hM hB
theorem zlb(h:code 29=some x29W)(hM:M[b]?=some (.rich B))(hB:B[2]?=some (.imm (.val (.slice none 0 0)))):callW code ext 29 [.optr b 0] M=some (.tup [],M):=
 zmi (sz:=1) (f:=2) (mk:=415) h hM hB
theorem zlf(h:code 33=some x33W)(hM:M[b]?=some (.rich B))(hB:B[3]?=some (.imm (.val (.slice none 0 0)))):callW code ext 33 [.optr b 0] M=some (.tup [],M):=
 zmi (sz:=1) (f:=3) (mk:=419) h hM hB
theorem zk7(h:code 24=some x24W)(hM:M[b]?=some (.rich B))(hB:B[6]?=some (.imm (.val (.slice none 0 0)))):callW code ext 24 [.optr b 0] M=some (.tup [],M):=
 zmi (sz:=2) (f:=6) (mk:=410) h hM hB
theorem zk1(h:code 18=some x18W)(hM:M[b]?=some (.rich B))(hB:B[7]?=some (.imm (.val (.slice none 0 0)))):callW code ext 18 [.optr b 0] M=some (.tup [],M):=
 zmi (sz:=3) (f:=7) (mk:=404) h hM hB
theorem zk0(h:code 17=some x17W)(hM:M[b]?=some (.rich B))(hB:B[8]?=some (.imm (.val (.slice none 0 0)))):callW code ext 17 [.optr b 0] M=some (.tup [],M):=
 zmi (sz:=2) (f:=8) (mk:=403) h hM hB
theorem zk6(h:code 23=some x23W)(hM:M[b]?=some (.rich B))(hB:B[9]?=some (.imm (.val (.slice none 0 0)))):callW code ext 23 [.optr b 0] M=some (.tup [],M):=
 zmi (sz:=4) (f:=9) (mk:=409) h hM hB
theorem zk5(h:code 22=some x22W)(hM:M[b]?=some (.rich B))(hB:B[10]?=some (.imm (.val (.slice none 0 0)))):callW code ext 22 [.optr b 0] M=some (.tup [],M):=
 zmi (sz:=8) (f:=10) (mk:=408) h hM hB
theorem zk4(h:code 21=some x21W)(hM:M[b]?=some (.rich B))(hB:B[11]?=some (.imm (.val (.slice none 0 0)))):callW code ext 21 [.optr b 0] M=some (.tup [],M):=
 zmi (sz:=7) (f:=11) (mk:=407) h hM hB
theorem zle(h:code 32=some x32W)(hM:M[b]?=some (.rich B))(hB:B[12]?=some (.imm (.val (.slice none 0 0)))):callW code ext 32 [.optr b 0] M=some (.tup [],M):=
 zmi (sz:=6) (f:=12) (mk:=418) h hM hB
theorem zlg(h:code 35=some x35W)(hM:M[b]?=some (.rich B))(hB:B[13]?=some (.imm (.val (.slice none 0 0)))):callW code ext 35 [.optr b 0] M=some (.tup [],M):=
 zmi (sz:=4) (f:=13) (mk:=421) h hM hB
theorem zlc(h:code 30=some x30W)(hM:M[b]?=some (.rich B))(hB:B[14]?=some (.imm (.val (.slice none 0 0)))):callW code ext 30 [.optr b 0] M=some (.tup [],M):=
 zmi (sz:=6) (f:=14) (mk:=416) h hM hB
theorem zk9(h:code 26=some x26W)(hM:M[b]?=some (.rich B))(hB:B[15]?=some (.imm (.val (.slice none 0 0)))):callW code ext 26 [.optr b 0] M=some (.tup [],M):=
 zmi (sz:=3) (f:=15) (mk:=412) h hM hB
theorem zk3(h:code 20=some x20W)(hM:M[b]?=some (.rich B))(hB:B[16]?=some (.imm (.val (.slice none 0 0)))):callW code ext 20 [.optr b 0] M=some (.tup [],M):=
 zmi (sz:=2) (f:=16) (mk:=406) h hM hB
theorem zk2(h:code 19=some x19W)(hM:M[b]?=some (.rich B))(hB:B[17]?=some (.imm (.val (.slice none 0 0)))):callW code ext 19 [.optr b 0] M=some (.tup [],M):=
 zmi (sz:=3) (f:=17) (mk:=405) h hM hB
theorem zla(h:code 27=some x27W)(hM:M[b]?=some (.rich B))(hB:B[18]?=some (.imm (.val (.slice none 0 0)))):callW code ext 27 [.optr b 0] M=some (.tup [],M):=
 zmi (sz:=5) (f:=18) (mk:=413) h hM hB
theorem zkz(h:code 16=some x16W)(hM:M[b]?=some (.rich B))(hB:B[19]?=some (.imm (.val (.slice none 0 0)))):callW code ext 16 [.optr b 0] M=some (.tup [],M):=
 zmi (sz:=6) (f:=19) (mk:=402) h hM hB
theorem zld(h:code 31=some x31W)(hM:M[b]?=some (.rich B))(hB:B[20]?=some (.imm (.val (.slice none 0 0)))):callW code ext 31 [.optr b 0] M=some (.tup [],M):=
 zmi (sz:=2) (f:=20) (mk:=417) h hM hB
theorem zlq(h:code 45=some x45W)(hM:M[b]?=some (.rich B))(hB:B[1]?=some (.imm (.val (.slice none 0 0)))):callW code ext 45 [.optr b 0] M=some (.tup [],M):=
 zmj (sz:=1) (by_:=8) (zs:=[(.int .i64 0)]) (f:=1) (mk:=411) h hM hB
theorem zlt(h:code 49=some x49W)(hM:M[b]?=some (.rich B))(hB:B[2]?=some (.imm (.val (.slice none 0 0)))):callW code ext 49 [.optr b 0] M=some (.tup [],M):=
 zmj (sz:=1) (by_:=8) (zs:=[(.int .i64 0)]) (f:=2) (mk:=415) h hM hB
theorem zlx(h:code 53=some x53W)(hM:M[b]?=some (.rich B))(hB:B[3]?=some (.imm (.val (.slice none 0 0)))):callW code ext 53 [.optr b 0] M=some (.tup [],M):=
 zmj (sz:=1) (by_:=16) (zs:=[(.string .empty)]) (f:=3) (mk:=419) h hM hB
theorem zlp(h:code 44=some x44W)(hM:M[b]?=some (.rich B))(hB:B[6]?=some (.imm (.val (.slice none 0 0)))):callW code ext 44 [.optr b 0] M=some (.tup [],M):=
 zmj (sz:=2) (by_:=16) (zs:=[(.int .u8 0),(.int .i64 0)]) (f:=6) (mk:=410) h hM hB
theorem zlj(h:code 38=some x38W)(hM:M[b]?=some (.rich B))(hB:B[7]?=some (.imm (.val (.slice none 0 0)))):callW code ext 38 [.optr b 0] M=some (.tup [],M):=
 zmj (sz:=3) (by_:=32) (zs:=[(.int .u8 0),(.int .i64 0),(.string .empty)]) (f:=7) (mk:=404) h hM hB
theorem zli(h:code 37=some x37W)(hM:M[b]?=some (.rich B))(hB:B[8]?=some (.imm (.val (.slice none 0 0)))):callW code ext 37 [.optr b 0] M=some (.tup [],M):=
 zmj (sz:=2) (by_:=16) (zs:=[(.bool false),(.int .i64 0)]) (f:=8) (mk:=403) h hM hB
theorem zlo(h:code 43=some x43W)(hM:M[b]?=some (.rich B))(hB:B[9]?=some (.imm (.val (.slice none 0 0)))):callW code ext 43 [.optr b 0] M=some (.tup [],M):=
 zmj (sz:=4) (by_:=32) (zs:=[(.int .i64 0),(.int .i64 0),(.int .i64 0),(.int .i64 0)]) (f:=9) (mk:=409) h hM hB
theorem zln(h:code 42=some x42W)(hM:M[b]?=some (.rich B))(hB:B[10]?=some (.imm (.val (.slice none 0 0)))):callW code ext 42 [.optr b 0] M=some (.tup [],M):=
 zmj (sz:=8) (by_:=152) (zs:=[(.string .empty),(.int .i64 0),(.int .i64 0),(.slice none 0 0),(.slice none 0 0),(.slice none 0 0),(.slice none 0 0),(.slice none 0 0)]) (f:=10) (mk:=408) h hM hB
theorem zlm(h:code 41=some x41W)(hM:M[b]?=some (.rich B))(hB:B[11]?=some (.imm (.val (.slice none 0 0)))):callW code ext 41 [.optr b 0] M=some (.tup [],M):=
 zmj (sz:=7) (by_:=112) (zs:=[(.int .u8 0),(.int .i64 0),(.string .empty),(.slice none 0 0),(.slice none 0 0),(.slice none 0 0),(.int .i64 0)]) (f:=11) (mk:=407) h hM hB
theorem zlw(h:code 52=some x52W)(hM:M[b]?=some (.rich B))(hB:B[12]?=some (.imm (.val (.slice none 0 0)))):callW code ext 52 [.optr b 0] M=some (.tup [],M):=
 zmj (sz:=6) (by_:=104) (zs:=[(.int .u8 0),(.string .empty),(.slice none 0 0),(.slice none 0 0),(.slice none 0 0),(.int .i64 0)]) (f:=12) (mk:=418) h hM hB
theorem zly(h:code 55=some x55W)(hM:M[b]?=some (.rich B))(hB:B[13]?=some (.imm (.val (.slice none 0 0)))):callW code ext 55 [.optr b 0] M=some (.tup [],M):=
 zmj (sz:=4) (by_:=40) (zs:=[(.int .u8 0),(.string .empty),(.int .i64 0),(.int .i64 0)]) (f:=13) (mk:=421) h hM hB
theorem zlu(h:code 50=some x50W)(hM:M[b]?=some (.rich B))(hB:B[14]?=some (.imm (.val (.slice none 0 0)))):callW code ext 50 [.optr b 0] M=some (.tup [],M):=
 zmj (sz:=6) (by_:=64) (zs:=[(.int .u8 0),(.int .i64 0),(.slice none 0 0),(.int .i64 0),(.int .u8 0),(.int .i64 0)]) (f:=14) (mk:=416) h hM hB
theorem zlr(h:code 46=some x46W)(hM:M[b]?=some (.rich B))(hB:B[15]?=some (.imm (.val (.slice none 0 0)))):callW code ext 46 [.optr b 0] M=some (.tup [],M):=
 zmj (sz:=3) (by_:=24) (zs:=[(.int .i64 0),(.int .u8 0),(.int .i64 0)]) (f:=15) (mk:=412) h hM hB
theorem zll(h:code 40=some x40W)(hM:M[b]?=some (.rich B))(hB:B[16]?=some (.imm (.val (.slice none 0 0)))):callW code ext 40 [.optr b 0] M=some (.tup [],M):=
 zmj (sz:=2) (by_:=32) (zs:=[(.int .i64 0),(.slice none 0 0)]) (f:=16) (mk:=406) h hM hB
theorem zlk(h:code 39=some x39W)(hM:M[b]?=some (.rich B))(hB:B[17]?=some (.imm (.val (.slice none 0 0)))):callW code ext 39 [.optr b 0] M=some (.tup [],M):=
 zmj (sz:=3) (by_:=40) (zs:=[(.int .i64 0),(.int .i64 0),(.slice none 0 0)]) (f:=17) (mk:=405) h hM hB
theorem zls(h:code 47=some x47W)(hM:M[b]?=some (.rich B))(hB:B[18]?=some (.imm (.val (.slice none 0 0)))):callW code ext 47 [.optr b 0] M=some (.tup [],M):=
 zmj (sz:=5) (by_:=56) (zs:=[(.int .u8 0),(.slice none 0 0),(.int .i64 0),(.int .u8 0),(.int .i64 0)]) (f:=18) (mk:=413) h hM hB
theorem zlh(h:code 36=some x36W)(hM:M[b]?=some (.rich B))(hB:B[19]?=some (.imm (.val (.slice none 0 0)))):callW code ext 36 [.optr b 0] M=some (.tup [],M):=
 zmj (sz:=6) (by_:=112) (zs:=[(.slice none 0 0),(.int .u8 0),(.slice none 0 0),(.slice none 0 0),(.slice none 0 0),(.int .i64 0)]) (f:=19) (mk:=402) h hM hB
theorem zlv(h:code 51=some x51W)(hM:M[b]?=some (.rich B))(hB:B[20]?=some (.imm (.val (.slice none 0 0)))):callW code ext 51 [.optr b 0] M=some (.tup [],M):=
 zmj (sz:=2) (by_:=32) (zs:=[(.int .i64 0),(.slice none 0 0)]) (f:=20) (mk:=417) h hM hB
theorem zl8(h:code 75=some x75W)(hM:M[b]?=some (.rich B))(hB:B[1]?=some (.imm (.val (.slice none 0 0)))):callW code ext 75 [.optr b 0] M=some (avb true,M):=by
 rw[zb5 code ext h]
 simp -implicitDefEqProofs [x75W,x75WL2,zeb,hM,hB]
theorem zmb(h:code 79=some x79W)(hM:M[b]?=some (.rich B))(hB:B[2]?=some (.imm (.val (.slice none 0 0)))):callW code ext 79 [.optr b 0] M=some (avb true,M):=by
 rw[zb5 code ext h]
 simp -implicitDefEqProofs [x79W,x79WL2,zeb,hM,hB]
theorem zmf(h:code 83=some x83W)(hM:M[b]?=some (.rich B))(hB:B[3]?=some (.imm (.val (.slice none 0 0)))):callW code ext 83 [.optr b 0] M=some (avb true,M):=by
 rw[zb5 code ext h]
 simp -implicitDefEqProofs [x83W,x83WL2,zeb,hM,hB]
theorem zl7(h:code 74=some x74W)(hM:M[b]?=some (.rich B))(hB:B[6]?=some (.imm (.val (.slice none 0 0)))):callW code ext 74 [.optr b 0] M=some (avb true,M):=
 zmk (sz:=2) (f:=6) (isn:=390) h hM hB
theorem zl1(h:code 68=some x68W)(hM:M[b]?=some (.rich B))(hB:B[7]?=some (.imm (.val (.slice none 0 0)))):callW code ext 68 [.optr b 0] M=some (avb true,M):=
 zmk (sz:=3) (f:=7) (isn:=384) h hM hB
theorem zl0(h:code 67=some x67W)(hM:M[b]?=some (.rich B))(hB:B[8]?=some (.imm (.val (.slice none 0 0)))):callW code ext 67 [.optr b 0] M=some (avb true,M):=
 zmk (sz:=2) (f:=8) (isn:=383) h hM hB
theorem zl6(h:code 73=some x73W)(hM:M[b]?=some (.rich B))(hB:B[9]?=some (.imm (.val (.slice none 0 0)))):callW code ext 73 [.optr b 0] M=some (avb true,M):=
 zmk (sz:=4) (f:=9) (isn:=389) h hM hB
theorem zl5(h:code 72=some x72W)(hM:M[b]?=some (.rich B))(hB:B[10]?=some (.imm (.val (.slice none 0 0)))):callW code ext 72 [.optr b 0] M=some (avb true,M):=
 zmk (sz:=8) (f:=10) (isn:=388) h hM hB
theorem zl4(h:code 71=some x71W)(hM:M[b]?=some (.rich B))(hB:B[11]?=some (.imm (.val (.slice none 0 0)))):callW code ext 71 [.optr b 0] M=some (avb true,M):=
 zmk (sz:=7) (f:=11) (isn:=387) h hM hB
theorem zme(h:code 82=some x82W)(hM:M[b]?=some (.rich B))(hB:B[12]?=some (.imm (.val (.slice none 0 0)))):callW code ext 82 [.optr b 0] M=some (avb true,M):=
 zmk (sz:=6) (f:=12) (isn:=398) h hM hB
theorem zmg(h:code 85=some x85W)(hM:M[b]?=some (.rich B))(hB:B[13]?=some (.imm (.val (.slice none 0 0)))):callW code ext 85 [.optr b 0] M=some (avb true,M):=
 zmk (sz:=4) (f:=13) (isn:=401) h hM hB
theorem zmc(h:code 80=some x80W)(hM:M[b]?=some (.rich B))(hB:B[14]?=some (.imm (.val (.slice none 0 0)))):callW code ext 80 [.optr b 0] M=some (avb true,M):=
 zmk (sz:=6) (f:=14) (isn:=396) h hM hB
theorem zl9(h:code 76=some x76W)(hM:M[b]?=some (.rich B))(hB:B[15]?=some (.imm (.val (.slice none 0 0)))):callW code ext 76 [.optr b 0] M=some (avb true,M):=
 zmk (sz:=3) (f:=15) (isn:=392) h hM hB
theorem zl3(h:code 70=some x70W)(hM:M[b]?=some (.rich B))(hB:B[16]?=some (.imm (.val (.slice none 0 0)))):callW code ext 70 [.optr b 0] M=some (avb true,M):=
 zmk (sz:=2) (f:=16) (isn:=386) h hM hB
theorem zl2(h:code 69=some x69W)(hM:M[b]?=some (.rich B))(hB:B[17]?=some (.imm (.val (.slice none 0 0)))):callW code ext 69 [.optr b 0] M=some (avb true,M):=
 zmk (sz:=3) (f:=17) (isn:=385) h hM hB
theorem zma(h:code 77=some x77W)(hM:M[b]?=some (.rich B))(hB:B[18]?=some (.imm (.val (.slice none 0 0)))):callW code ext 77 [.optr b 0] M=some (avb true,M):=
 zmk (sz:=5) (f:=18) (isn:=393) h hM hB
theorem zlz(h:code 66=some x66W)(hM:M[b]?=some (.rich B))(hB:B[19]?=some (.imm (.val (.slice none 0 0)))):callW code ext 66 [.optr b 0] M=some (avb true,M):=
 zmk (sz:=6) (f:=19) (isn:=382) h hM hB
theorem zmd(h:code 81=some x81W)(hM:M[b]?=some (.rich B))(hB:B[20]?=some (.imm (.val (.slice none 0 0)))):callW code ext 81 [.optr b 0] M=some (avb true,M):=
 zmk (sz:=2) (f:=20) (isn:=397) h hM hB
end
end Go.EX


namespace Go.EX
section
variable {code:Nat→Option XFun} {ext:Calls'}
def Ty.part{α:Type}(t:Ty α)(z:α)(xs:List α)(n:Nat):List IV:=t.row (xs++List.replicate n z)
theorem zn8{α:Type}(t:Ty α)(z:α)(xs:List α)(n:Nat):(t.part z xs n).length=(xs.length+n)*t.sz:=by
 unfold Ty.part;rw[zrn];simp
theorem zn9{α:Type}(t:Ty α)(h0:0<t.sz)(z:α)(xs:List α)(n:Nat)(x:α):setAll (t.part z xs (n+1)) (xs.length*t.sz) (t.enc x)=t.part z (xs++[x]) n:=by
 unfold Ty.part
 rw[zs4 h0 (by simp)]
 congr 1
 rw[List.set_append_right _ _ (Nat.le_refl _)]
 simp[List.replicate_succ]
def twinL(sz bytes:Nat)(zs:List Value):XCode:=
 (.seq (.seq (.region [0,3,4,12] [⟨(some 9),.mv (.t 4),none⟩,
  ⟨(some 10),.mv (.t 0),none⟩,
  ⟨(some 11),.len (.t 10),none⟩,
  ⟨(some 12),.bin .lss (.t 9) (.t 11),none⟩])
 (.cond (.t 12)
  .skip
  (.exit 0)))
 (.seq (.block 1 (.region [0,3,4] [⟨(some 15),.mv (.t 3),none⟩,
  ⟨(some 16),.mv (.t 0),none⟩,
  ⟨(some 17),.mv (.t 4),none⟩,
  ⟨(some 18),.idxA sz (.t 16) (.t 17),none⟩,
  ⟨(some 19),.load (some sz) (.t 18),none⟩,
  ⟨(some 20),.buildSlice sz zs 1 [(0,sz,(.t 19))],none⟩,
  ⟨(some 21),.append sz bytes (.t 15) (.t 20),none⟩,
  ⟨(some 3),.mv (.t 21),none⟩]))
 (.region [0,3,4] [⟨(some 13),.mv (.t 4),none⟩,
  ⟨(some 14),.bin .add (.t 13) (.c (.int .i64 1)),none⟩,
  ⟨(some 4),.mv (.t 14),none⟩])))
def twinF(sz bytes:Nat)(zs:List Value)(k:Nat)(v:Value):XFun:=⟨[.tmp 2],
 (.seq (.region [0] [⟨(some 2),.mv (.c (.slice none 0 0)),none⟩])
 (.seq (.region [0,3] [⟨(some 5),.mv (.t 0),none⟩,
  ⟨(some 6),.len (.t 5),none⟩,
  ⟨(some 7),.bin .add (.t 6) (.c (.int .i64 1)),none⟩,
  ⟨(some 8),.makeSlice sz bytes zs (.c (.int .i64 0)) (.t 7),none⟩,
  ⟨(some 3),.mv (.t 8),none⟩])
 (.seq (.seq (.region [0,3,4] [⟨(some 4),.mv (.c (.int .i64 0)),none⟩])
 (.block 0 (.loop [0,3,4] (twinL sz bytes zs))))
 (.seq (.region [2] [⟨(some 22),.mv (.t 3),none⟩,
  ⟨(some 23),(.build zs [(k,1,(.c v))]),none⟩,
  ⟨(some 24),.buildSlice sz zs 1 [(0,sz,(.t 23))],none⟩,
  ⟨(some 25),.append sz bytes (.t 22) (.t 24),none⟩,
  ⟨(some 26),.mv (.t 0),none⟩,
  ⟨(some 27),.len (.t 26),none⟩,
  ⟨(some 28),.slice sz (.t 25) none (some (.t 27)),none⟩,
  ⟨(some 2),.mv (.t 28),none⟩])
 .ret))))⟩
section
variable {α:Type} (t:Ty α) (z sp:α) (bytes:Nat) (zs:List Value)
theorem znl(hz:zs.map IV.val=t.enc z)(x:α):imms (setAll (zs.map fun z=>AV.imm (.val z)) 0 ((t.enc x).map AV.imm))=some (t.enc x):=by
 have h1:zs.length=t.sz:=by rw[←t.len z,←hz];simp
 rw[zs8 _ _ (by simp[h1,t.len])]
 simp
theorem zvl(h0:0<t.sz)(hz:zs.map IV.val=t.enc z)(iv:IV)(xs:List α)(h:Reads t iv xs){s:St}(hb:xs.length<9223372036854775807)
  (hst:s.tidy [0,3,4]=⟨0,[(0,.imm iv),(3,.osl 0 0 t.sz 0 (some (xs.length+1))),(4,int64 0)],[.flat (t.part z [] (xs.length+1)) false]⟩):
  ∃e s',den code ext (.loop [0,3,4] (twinL t.sz bytes zs)) s=some (e,s')∧e≠ .normal∧
   (e=.exit 0∧s'=⟨0,[(0,.imm iv),(3,.osl 0 0 t.sz xs.length (some (xs.length+1))),(4,int64 xs.length),(12,avb false)],[.flat (t.part z xs 1) false]⟩):=by
 refine zjp (fun n s=>∃i,i+n=xs.length∧s.tidy [0,3,4]=⟨0,[(0,.imm iv),(3,.osl 0 0 t.sz i (some (xs.length+1))),(4,int64 (i:Nat))],[.flat (t.part z (xs.take i) (n+1)) false]⟩) _ ?_ xs.length _ ⟨0,by simp,by simpa using hst⟩
 clear hst
 rintro n s ⟨i,hi,hst⟩
 rw[hst]
 have hlen:=zpr h
 by_cases hlt:i<xs.length
 ·obtain⟨row,off,cap,rfl,hc,hcut,hget⟩:=zps h (List.getElem?_eq_getElem hlt)
  have e1:IntKind.wrap .i64 ((i:Int)+1)=(i:Int)+1:=wrapI64 (by omega) (by omega)
  obtain⟨m,rfl⟩:∃m,n=m+1:=⟨n-1,by omega⟩
  have hlt':(i:Int)<xs.length:=by omega
  have hle:((t.enc xs[i]).map AV.imm).length=t.sz:=by rw[List.length_map,t.len]
  have hzl:(imZ (copies 1 zs)).length=t.sz:=by rw[←t.len z,←hz];simp[imZ]
  have hel:∀(A B:List IV),elems [.flat A false,.flat (t.enc xs[i]) false] t.sz (.osl 1 0 t.sz 1 (some 1))=some (1,t.enc xs[i]):=by
   intro A B
   simp only[elems,List.getElem?_cons_succ,List.getElem?_cons_zero,Nat.one_mul]
   rw[zdv _ (t.len _)];rfl
  have htk:xs.take (i+1)=xs.take i++[xs[i]]:=by rw[List.take_add_one,List.getElem?_eq_getElem hlt];rfl
  have hset:=zn9 t h0 z (xs.take i) (m+1) xs[i]
  have hti:(xs.take i).length=i:=by rw[List.length_take];omega
  rw[hti,←htk]at hset
  have hfit:(i+1)*t.sz≤(t.part z (xs.take i) (m+1+1)).length:=by
   rw[zn8,hti];exact Nat.mul_le_mul_right _ (by omega)
  have hap:exAppendX ⟨0,[(20,.osl 1 0 t.sz 1 (some 1)),(19,.agg ((t.enc xs[i]).map AV.imm)),(18,.imm (.ptr row (off+i*t.sz))),(17,int64 (i:Nat)),(16,.imm (.slice row off xs.length cap)),(15,.osl 0 0 t.sz i (some (xs.length+1))),
    (0,.imm (.slice row off xs.length cap)),(3,.osl 0 0 t.sz i (some (xs.length+1))),(4,int64 (i:Nat)),(12,avb true)],[.flat (t.part z (xs.take i) (m+1+1)) false,.flat (t.enc xs[i]) false]⟩ t.sz bytes (.osl 0 0 t.sz i (some (xs.length+1))) (.osl 1 0 t.sz 1 (some 1))=
    some (.osl 0 0 t.sz (i+1) (some (xs.length+1)),⟨0,[(20,.osl 1 0 t.sz 1 (some 1)),(19,.agg ((t.enc xs[i]).map AV.imm)),(18,.imm (.ptr row (off+i*t.sz))),(17,int64 (i:Nat)),(16,.imm (.slice row off xs.length cap)),(15,.osl 0 0 t.sz i (some (xs.length+1))),
    (0,.imm (.slice row off xs.length cap)),(3,.osl 0 0 t.sz i (some (xs.length+1))),(4,int64 (i:Nat)),(12,avb true)],[.flat (t.part z (xs.take (i+1)) (m+1)) false,.flat (t.enc xs[i]) false]⟩):=by
   simp only[exAppendX,exAppend,hel _ []]
   simp[hset,hfit,show i+1≤xs.length+1 by omega]
  refine⟨.normal,⟨0,[(0,.imm (.slice row off xs.length cap)),(3,.osl 0 0 t.sz (i+1) (some (xs.length+1))),(4,int64 ((i:Int)+1))],[.flat (t.part z (xs.take (i+1)) (m+1)) false,.flat (t.enc xs[i]) false]⟩,?_,.inl ⟨rfl,m,by omega,i+1,by omega,?_⟩⟩
  ·have hone':=znl t z zs hz xs[i]
   have hzs:zs.length=t.sz:=by rw[←t.len z,←hz];simp
   have hl2:=t.len xs[i]
   simp -implicitDefEqProofs [twinL,hlt',hlt,hget,hl2,hzs,hone',hap,e1]
  ·simp -implicitDefEqProofs
 ·have:i=xs.length:=by omega
  subst this
  refine⟨.exit 0,⟨0,[(0,.imm iv),(3,.osl 0 0 t.sz xs.length (some (xs.length+1))),(4,int64 xs.length),(12,avb false)],[.flat (t.part z xs 1) false]⟩,?_,.inr ⟨by simp,rfl,rfl⟩⟩
  have:n=0:=by omega
  subst this
  simp -implicitDefEqProofs [twinL,hlen]
theorem zvo(h0:0<t.sz)(hz:zs.map IV.val=t.enc z)(hzs:∀v∈zs,v.oneCell'=true)(k:Nat)(v:Value)(hk:k+1≤t.sz)(hp:setAll (zs.map fun z=>AV.imm (.val z)) k [.imm (.val v)]=(t.enc sp).map .imm)
  {g:Nat} (hg:code g=some (twinF t.sz bytes zs k v)) {iv:IV} {xs:List α} (h:Reads t iv xs) (hb1:xs.length<9223372036854775807) (hb2:bytes*(xs.length+1)≤281474976710656):
  callW code ext g [.imm iv] []=some (.osl 0 0 t.sz xs.length (some (xs.length+1)),[.flat (t.row (xs++[sp])) false]):=by
 rw[zb5 code ext hg]
 have hcp:copies (xs.length+1) (zs.map IV.val)=t.part z [] (xs.length+1):=by rw[hz,zdp];rfl
 obtain⟨e,s',h1,_,rfl,rfl⟩:=zvl (code:=code) (ext:=ext) t z bytes zs h0 hz iv xs h (s:=⟨0,[(0,.imm iv),(3,.osl 0 0 t.sz 0 (some (xs.length+1))),(4,int64 0)],[.flat (t.part z [] (xs.length+1)) false]⟩) hb1 (by simp -implicitDefEqProofs)
 have hlen:=zpr h
 have e1:IntKind.wrap .i64 ((xs.length:Int)+1)=(xs.length:Int)+1:=wrapI64 (by omega) (by omega)
 have e2:(0:Int)≤(xs.length:Int)+1:=by omega
 have e3:(bytes:Int)*((xs.length:Int)+1)≤281474976710656:=by
  have:((bytes*(xs.length+1):Nat):Int)≤281474976710656:=by omega
  simpa using this
 have e4:(xs.length:Int)+1≤9223372036854775807:=by omega
 have e6:(xs.length:Int)≤(xs.length:Int)+1:=by omega
 have e5:((xs.length:Int)+1).toNat=xs.length+1:=by omega
 have hzl:zs.length=t.sz:=by rw[←t.len z,←hz];simp
 have hone':=znl t z zs hz sp
 have hl2:=t.len sp
 have hel:∀(A B:List IV),elems [.flat A false,.flat (t.enc sp) false] t.sz (.osl 1 0 t.sz 1 (some 1))=some (1,t.enc sp):=by
  intro A B
  simp only[elems,List.getElem?_cons_succ,List.getElem?_cons_zero,Nat.one_mul]
  rw[zdv _ (t.len _)];rfl
 have hset:=zn9 t h0 z xs 0 sp
 have hfin:t.part z (xs++[sp]) 0=t.row (xs++[sp]):=by unfold Ty.part;simp
 have hfit:(xs.length+1)*t.sz≤(t.part z xs (0+1)).length:=by rw[zn8];exact Nat.le_refl _
 rw[hfin]at hset
 simp only[Nat.zero_add]at hset hfit
 simp -implicitDefEqProofs [twinF,hlen,e6,e1,e2,e3,e4,e5,hcp,h1,hp,hk,hzl,hl2,hone',exAppendX,exAppend,hel _ [],hset,hfit,exSlice]
end
end
end Go.EX


namespace Go.EX
def RowO(cells:List AV)(o:AObj):Prop:=o=.rich cells∨∃cs,o=.flat cs false∧cells=cs.map .imm
def HeldAt(M:Mem)(vx:AV)(cells:List AV)(ne:Nat):Prop:=
 (vx=nilS∧cells=[]∧ne=0)∨∃vid o,vx=.osl vid 0 3 ne none∧M[vid]?=some o∧RowO cells o∧cells.length=ne*3∧0<ne
def killV(M:Mem):AV→Mem
 |.osl id _ _ _ _=>M.set id .dead
 |_=>M
theorem zrf(one:List AV):RowO one (mkObj one):=by
 unfold mkObj
 cases h:imms one with
 |none=>exact .inl rfl
 |some xs=>exact .inr ⟨xs,rfl,zhu _ _ h⟩
theorem zrc{M:Mem}{id n sz:Nat}{cells:List AV}{o:AObj}{cap:Option Nat}(hM:M[id]?=some o)(h:RowO cells o)(hl:cells.length=n*sz):elemsR M sz (.osl id 0 sz n cap)=some (n,cells):=by
 rcases h with rfl|⟨cs,rfl,rfl⟩
 ·simp only[elemsR,hM]
  rw[zdv _ hl];rfl
 ·rw[List.length_map]at hl
  simp only[elemsR,hM]
  rw[zdv _ hl];rfl
theorem zg7{α:Type}(M:List α)(x:α):(M++[x])[M.length]?=some x:=by simp
theorem zo9(k:Nat)(e:Env){M:Mem}{vx:AV}{cells one:List AV}{ne:Nat}(h1:one.length=3)(h:HeldAt M vx cells ne)(hk:∀id∈vx.refs,id<k)(hn:ne≤1000000000):
  ∃o',RowO (cells++one) o'∧exAppendX ⟨k,e,M++[mkObj one]⟩ 3 56 vx (.osl M.length 0 3 1 (some 1))=some (.osl (M.length+1) 0 3 (ne+1) none,⟨k,e,killV M vx++[mkObj one,o']⟩):=by
 have hr2:elemsR (M++[mkObj one]) 3 (.osl M.length 0 3 1 (some 1))=some (1,one):=zrc (zg7 _ _) (zrf one) (by omega)
 rcases h with⟨rfl,rfl,rfl⟩|⟨vid,o,rfl,ho,hrow,hl,hpos⟩
 ·cases him:imms one with
  |none=>
   refine⟨.rich one,.inl rfl,?_⟩
   have hmk:mkObj one=.rich one:=by unfold mkObj;rw[him]
   rw[hmk]at hr2 ⊢
   have hel:elems (M++[.rich one]) 3 (.osl M.length 0 3 1 (some 1))=none:=by
    simp only[elems,zg7]
    rw[zdv _ (by omega)]
    simp[him]
   simp only[exAppendX,exAppend,hel,exAppendR,hr2]
   simp[killV,fresh]
  |some xs=>
   have hxs:=zhu _ _ him
   subst hxs
   refine⟨.flat xs false,.inr ⟨xs,rfl,rfl⟩,?_⟩
   have hmk:mkObj (xs.map .imm)=.flat xs false:=by unfold mkObj;rw[him]
   rw[hmk]at hr2 ⊢
   rw[List.length_map]at h1
   have hel:elems (M++[.flat xs false]) 3 (.osl M.length 0 3 1 (some 1))=some (1,xs):=by
    simp only[elems,zg7]
    rw[zdv _ (by omega)];rfl
   simp only[exAppendX,exAppend,hel]
   simp[killV,fresh]
 ·have hvl:vid<M.length:=(List.getElem?_eq_some_iff.1 ho).1
  have hvk:¬k≤vid:=by have:=hk vid (by simp[AV.refs]);omega
  refine⟨.rich (cells++one),.inl rfl,?_⟩
  have hr1:elemsR (M++[mkObj one]) 3 (.osl vid 0 3 ne none)=some (ne,cells):=zrc (by rw[List.getElem?_append_left hvl];exact ho) hrow hl
  have hset:(M++[mkObj one]).set vid .dead=M.set vid .dead++[mkObj one]:=by rw[List.set_append_left _ _ hvl]
  have hA:exAppendR ⟨k,e,M++[mkObj one]⟩ 3 56 (.osl vid 0 3 ne none) (.osl M.length 0 3 1 (some 1))=some (.osl (M.length+1) 0 3 (ne+1) none,⟨k,e,killV M (.osl vid 0 3 ne none)++[mkObj one,.rich (cells++one)]⟩):=by
   simp only[exAppendR,hr2,hr1]
   have hb:(ne+1)*56≤140737488355328:=by omega
   simp[hb,hset,killV,-mkObj]
  have hno:exAppend ⟨k,e,M++[mkObj one]⟩ 3 56 (.osl vid 0 3 ne none) (.osl M.length 0 3 1 (some 1))=none:=by
   unfold exAppend
   cases elems (M++[mkObj one]) 3 (.osl M.length 0 3 1 (some 1))with
   |none=>rfl
   |some p=>simp[hvk]
  simp only[exAppendX,hno]
  exact hA
section
variable {code:Nat→Option XFun} {ext:Calls'} {M:Mem} {b:Nat} {B:List AV}
theorem ziq(M:Mem)(vx:AV):(killV M vx).length=M.length:=by
 cases vx<;>simp[killV]
theorem zio{M:Mem}{vx:AV}{id:Nat}(h:id ∉ vx.refs):(killV M vx)[id]?=M[id]?:=by
 cases vx with
 |osl i a c d e=>
  simp only[killV]
  rw[List.getElem?_set_ne]
  intro he
  apply h
  simp[AV.refs,he]
 |_=>rfl
theorem zte(B:List AV)(j:Nat)(x y:AV){i:Nat}(h0:i≠0)(hj:i≠j):((B.set 0 x).set j y)[i]?=B[i]?:=by
 rw[List.getElem?_set_ne (fun h=>hj h.symm),List.getElem?_set_ne (fun h=>h0 h.symm)]
theorem zie(h:code 64=some x64W)(hM:M[b]?=some (.rich B))(hB:B.length=21){n:Int}(h0:B[0]?=some (int64 n))(hn0:0≤n)(hn:n≤1000000000){vx x:AV}{cells:List AV}{ne:Nat}(h4:B[4]?=some vx)(hh:HeldAt M vx cells ne)(hne:ne≤1000000000)
  (hx:x.cells=some [x]) (hvx:∀id∈vx.refs,id<M.length∧id≠b):
  ∃o',RowO (cells++[x,nilS,int64 (n+1)]) o'∧callW code ext 64 [.optr b 0,x] M=
   some (.tup [],(killV (M.set b (.rich ((B.set 0 (int64 (n+1))).set 4 (.osl (M.length+1) 0 3 (ne+1) none)))) vx)++[mkObj [x,nilS,int64 (n+1)],o']):=by
 have hbl:b<M.length:=(List.getElem?_eq_some_iff.1 hM).1
 have e1:IntKind.wrap .i64 (n+1)=n+1:=wrapI64 (by omega) (by omega)
 have hM1:(M.set b (.rich (B.set 0 (int64 (n+1)))))[b]?=some (.rich (B.set 0 (int64 (n+1)))):=by simp[hbl]
 have hB4:(B.set 0 (int64 (n+1)))[4]?=some vx:=by rw[List.getElem?_set_ne (by decide)];exact h4
 have hB0:(B.set 0 (int64 (n+1)))[0]?=some (int64 (n+1)):=by simp[hB]
 have hh1:HeldAt (M.set b (.rich (B.set 0 (int64 (n+1))))) vx cells ne:=by
  rcases hh with hh|⟨vid,o,rfl,ho,hr⟩
  ·exact .inl hh
  ·refine .inr ⟨vid,o,rfl,?_,hr⟩
   rw[List.getElem?_set_ne (fun e=>(hvx vid (by simp[AV.refs])).2 e.symm)]
   exact ho
 have hl1:(M.set b (.rich (B.set 0 (int64 (n+1))))).length=M.length:=by simp
 obtain⟨o',ho',hap⟩:∃o',RowO (cells++[x,nilS,int64 (n+1)]) o'∧∀e,exAppendX ⟨M.length,e,M.set b (.rich (B.set 0 (int64 (n+1))))++[mkObj [x,nilS,int64 (n+1)]]⟩ 3 56 vx (.osl M.length 0 3 1 (some 1))=
   some (.osl (M.length+1) 0 3 (ne+1) none,⟨M.length,e,killV (M.set b (.rich (B.set 0 (int64 (n+1))))) vx++[mkObj [x,nilS,int64 (n+1)],o']⟩):=by
  obtain⟨o',h1,h2⟩:=zo9 M.length [] (one:=[x,nilS,int64 (n+1)]) rfl hh1 (fun id hid=>(hvx id hid).1) hne
  refine⟨o',h1,fun e=>?_⟩
  obtain⟨o2,h3,h4⟩:=zo9 M.length e (one:=[x,nilS,int64 (n+1)]) rfl hh1 (fun id hid=>(hvx id hid).1) hne
  rw[hl1]at h2 h4
  rw[h4]
  obtain⟨f,q1,q2,q3⟩:=za6 h2
  have h5:=q3 e
  rw[h4]at h5
  simp only[Option.some.injEq,Prod.mk.injEq,St.mk.injEq,true_and]at h5
  rw[h5.2]
 refine⟨o',ho',?_⟩
 generalize hK:killV (M.set b (.rich (B.set 0 (int64 (n+1))))) vx=K at hap
 have hKb:(K++[mkObj [x,nilS,int64 (n+1)],o'])[b]?=some (.rich (B.set 0 (int64 (n+1)))):=by
  rw[List.getElem?_append_left (by rw[←hK,ziq];simpa using hbl),←hK,zio (fun hid=>(hvx b hid).2 rfl)]
  exact hM1
 have hKs:∀y,(K++[mkObj [x,nilS,int64 (n+1)],o']).set b y=killV (M.set b y) vx++[mkObj [x,nilS,int64 (n+1)],o']:=by
  intro y
  rw[List.set_append_left _ _ (by rw[←hK,ziq];simpa using hbl),←hK]
  congr 1
  cases vx with
  |osl i a c d e=>
   have:=(hvx i (by simp[AV.refs])).2
   simp only[killV]
   rw[List.set_comm _ _ this.symm,List.set_set]
   exact List.set_comm _ _ this
  |_=>simp[killV]
 rw[zb5 code ext h]
 have hs0:setAll B 0 [int64 (n+1)]=B.set 0 (int64 (n+1)):=rfl
 have hsf:setAll (B.set 0 (int64 (n+1))) 4 [.osl (M.length+1) 0 3 (ne+1) none]=(B.set 0 (int64 (n+1))).set 4 (.osl (M.length+1) 0 3 (ne+1) none):=rfl
 have hBl:(B.set 0 (int64 (n+1))).length=21:=by simpa using hB
 have hfi:fillAll [nilS,nilS,int64 0] [(0,1,x),(2,1,int64 (n+1))]=some [x,nilS,int64 (n+1)]:=by
  simp only[fillAll,hx];rfl
 have hf2:fillAll [nilS,nilS,int64 0] [(0,3,.agg [x,nilS,int64 (n+1)])]=some [x,nilS,int64 (n+1)]:=rfl
 simp -implicitDefEqProofs [x64W,hM,hB,h0,e1,hs0,-getElem?_pos,hM1,hB4,hB0,hl1,hfi,hf2,-fillAll,hap,hKb,hsf,hBl,hKs,-mkObj]
theorem zid(h:code 62=some x62W)(hM:M[b]?=some (.rich B))(hB:B.length=21){n:Int}(h0:B[0]?=some (int64 n))(hn0:0≤n)(hn:n≤1000000000){vx x:AV}{cells:List AV}{ne:Nat}(h4:B[5]?=some vx)(hh:HeldAt M vx cells ne)(hne:ne≤1000000000)
  (hx:x.cells=some [x]) (hvx:∀id∈vx.refs,id<M.length∧id≠b):
  ∃o',RowO (cells++[x,nilS,int64 (n+1)]) o'∧callW code ext 62 [.optr b 0,x] M=
   some (.tup [],(killV (M.set b (.rich ((B.set 0 (int64 (n+1))).set 5 (.osl (M.length+1) 0 3 (ne+1) none)))) vx)++[mkObj [x,nilS,int64 (n+1)],o']):=by
 have hbl:b<M.length:=(List.getElem?_eq_some_iff.1 hM).1
 have e1:IntKind.wrap .i64 (n+1)=n+1:=wrapI64 (by omega) (by omega)
 have hM1:(M.set b (.rich (B.set 0 (int64 (n+1)))))[b]?=some (.rich (B.set 0 (int64 (n+1)))):=by simp[hbl]
 have hB4:(B.set 0 (int64 (n+1)))[5]?=some vx:=by rw[List.getElem?_set_ne (by decide)];exact h4
 have hB0:(B.set 0 (int64 (n+1)))[0]?=some (int64 (n+1)):=by simp[hB]
 have hh1:HeldAt (M.set b (.rich (B.set 0 (int64 (n+1))))) vx cells ne:=by
  rcases hh with hh|⟨vid,o,rfl,ho,hr⟩
  ·exact .inl hh
  ·refine .inr ⟨vid,o,rfl,?_,hr⟩
   rw[List.getElem?_set_ne (fun e=>(hvx vid (by simp[AV.refs])).2 e.symm)]
   exact ho
 have hl1:(M.set b (.rich (B.set 0 (int64 (n+1))))).length=M.length:=by simp
 obtain⟨o',ho',hap⟩:∃o',RowO (cells++[x,nilS,int64 (n+1)]) o'∧∀e,exAppendX ⟨M.length,e,M.set b (.rich (B.set 0 (int64 (n+1))))++[mkObj [x,nilS,int64 (n+1)]]⟩ 3 56 vx (.osl M.length 0 3 1 (some 1))=
   some (.osl (M.length+1) 0 3 (ne+1) none,⟨M.length,e,killV (M.set b (.rich (B.set 0 (int64 (n+1))))) vx++[mkObj [x,nilS,int64 (n+1)],o']⟩):=by
  obtain⟨o',h1,h2⟩:=zo9 M.length [] (one:=[x,nilS,int64 (n+1)]) rfl hh1 (fun id hid=>(hvx id hid).1) hne
  refine⟨o',h1,fun e=>?_⟩
  obtain⟨o2,h3,h4⟩:=zo9 M.length e (one:=[x,nilS,int64 (n+1)]) rfl hh1 (fun id hid=>(hvx id hid).1) hne
  rw[hl1]at h2 h4
  rw[h4]
  obtain⟨f,q1,q2,q3⟩:=za6 h2
  have h5:=q3 e
  rw[h4]at h5
  simp only[Option.some.injEq,Prod.mk.injEq,St.mk.injEq,true_and]at h5
  rw[h5.2]
 refine⟨o',ho',?_⟩
 generalize hK:killV (M.set b (.rich (B.set 0 (int64 (n+1))))) vx=K at hap
 have hKb:(K++[mkObj [x,nilS,int64 (n+1)],o'])[b]?=some (.rich (B.set 0 (int64 (n+1)))):=by
  rw[List.getElem?_append_left (by rw[←hK,ziq];simpa using hbl),←hK,zio (fun hid=>(hvx b hid).2 rfl)]
  exact hM1
 have hKs:∀y,(K++[mkObj [x,nilS,int64 (n+1)],o']).set b y=killV (M.set b y) vx++[mkObj [x,nilS,int64 (n+1)],o']:=by
  intro y
  rw[List.set_append_left _ _ (by rw[←hK,ziq];simpa using hbl),←hK]
  congr 1
  cases vx with
  |osl i a c d e=>
   have:=(hvx i (by simp[AV.refs])).2
   simp only[killV]
   rw[List.set_comm _ _ this.symm,List.set_set]
   exact List.set_comm _ _ this
  |_=>simp[killV]
 rw[zb5 code ext h]
 have hs0:setAll B 0 [int64 (n+1)]=B.set 0 (int64 (n+1)):=rfl
 have hsf:setAll (B.set 0 (int64 (n+1))) 5 [.osl (M.length+1) 0 3 (ne+1) none]=(B.set 0 (int64 (n+1))).set 5 (.osl (M.length+1) 0 3 (ne+1) none):=rfl
 have hBl:(B.set 0 (int64 (n+1))).length=21:=by simpa using hB
 have hfi:fillAll [nilS,nilS,int64 0] [(0,1,x),(2,1,int64 (n+1))]=some [x,nilS,int64 (n+1)]:=by
  simp only[fillAll,hx];rfl
 have hf2:fillAll [nilS,nilS,int64 0] [(0,3,.agg [x,nilS,int64 (n+1)])]=some [x,nilS,int64 (n+1)]:=rfl
 simp -implicitDefEqProofs [x62W,hM,hB,h0,e1,hs0,-getElem?_pos,hM1,hB4,hB0,hl1,hfi,hf2,-fillAll,hap,hKb,hsf,hBl,hKs,-mkObj]
end
end Go.EX


namespace Go.EX
structure Bk (M:Mem) (b:Nat) (n:Int) (vx:AV) (vc:List AV) (vn:Nat) (ox:AV) (oc:List AV) (on:Nat):Prop where
 B:∃B,M[b]?=some (.rich B)∧B.length=21∧B[0]?=some (int64 n)∧B[4]?=some vx∧B[5]?=some ox∧∀j,1≤j→j<21→j≠4→j≠5→B[j]?=some nilS
 v:HeldAt M vx vc vn
 o:HeldAt M ox oc on
 vr:∀id∈vx.refs,id<M.length∧id≠b
 or:∀id∈ox.refs,id<M.length∧id≠b
 vo:∀id∈vx.refs,id ∉ ox.refs
theorem zhp{M M':Mem}{x:AV}{c:List AV}{n:Nat}(h:HeldAt M x c n)(hs:∀id∈x.refs,M'[id]?=M[id]?):HeldAt M' x c n:=by
 rcases h with h|⟨vid,o,rfl,ho,h⟩
 ·exact .inl h
 ·exact .inr ⟨vid,o,rfl,by rw[hs vid (by simp[AV.refs])];exact ho,h⟩
structure Frm (M M':Mem) (b:Nat) (x:AV):Prop where
 len:M.length≤M'.length
 same:∀id,id<M.length→id≠b→id ∉ x.refs→M'[id]?=M[id]?
section
variable {code:Nat→Option XFun} {ext:Calls'} {M:Mem} {b:Nat} {n:Int} {vx ox x:AV} {vc oc:List AV} {vn on:Nat}
theorem zbt(h:code 64=some x64W)(k:Bk M b n vx vc vn ox oc on)(hn0:0≤n)(hn:n≤1000000000)(hne:vn≤1000000000)(hx:x.cells=some [x]):
  ∃M',callW code ext 64 [.optr b 0,x] M=some (.tup [],M')∧Bk M' b (n+1) (.osl (M.length+1) 0 3 (vn+1) none) (vc++[x,nilS,int64 (n+1)]) (vn+1) ox oc on∧Frm M M' b vx∧M.length+1<M'.length:=by
 obtain⟨B,hM,hB,h0,h4,h5,ho⟩:=k.B
 have hbl:b<M.length:=(List.getElem?_eq_some_iff.1 hM).1
 obtain⟨o',hr,hc⟩:=zie (ext:=ext) h hM hB h0 hn0 hn h4 k.v hne hx k.vr
 generalize hB':(B.set 0 (int64 (n+1))).set 4 (.osl (M.length+1) 0 3 (vn+1) none)=B' at hc
 have hK:(killV (M.set b (.rich B')) vx).length=M.length:=by rw[ziq];simp
 have hget:∀id,id<M.length→id≠b→id ∉ vx.refs→(killV (M.set b (.rich B')) vx++[mkObj [x,nilS,int64 (n+1)],o'])[id]?=M[id]?:=fun id h1 h2 h3=>by
  rw[List.getElem?_append_left (by omega),zio h3,List.getElem?_set_ne (fun e=>h2 e.symm)]
 refine⟨_,hc,⟨⟨B',?_,by rw[←hB'];simpa using hB,?_,?_,?_,fun j h1 h2 h3 h4'=>?_⟩,.inr ⟨M.length+1,o',rfl,?_,hr,?_,by omega⟩,zhp k.o fun id hid=>hget id (k.or id hid).1 (k.or id hid).2 fun hv=>k.vo id hv hid,fun id hid=>?_,fun id hid=>?_,fun id hid=>?_⟩,⟨?_,hget⟩,?_⟩
 ·rw[List.getElem?_append_left (by omega),zio (fun hid=>(k.vr b hid).2 rfl)]
  simp[hbl]
 ·rw[←hB',List.getElem?_set_ne (by decide)];simp[hB]
 ·rw[←hB'];simp[hB]
 ·rw[←hB',zte B 4 _ _ (by decide) (by decide)];exact h5
 ·rw[←hB',zte B 4 _ _ (by omega) h3];exact ho j h1 h2 h3 h4'
 ·rw[List.getElem?_append_right (by omega),hK];simp
 ·have:vc.length=vn*3:=by
   rcases k.v with⟨_,rfl,rfl⟩|⟨_,_,_,_,_,h,_⟩
   ·rfl
   ·exact h
  simp;omega
 ·simp[AV.refs]at hid;subst hid;simp[hK];omega
 ·have:=k.or id hid;simp[hK];omega
 ·simp[AV.refs]at hid;subst hid
  intro hm;have:=(k.or _ hm).1;omega
 ·simp[hK]
 ·simp[hK]
theorem zbs(h:code 62=some x62W)(k:Bk M b n vx vc vn ox oc on)(hn0:0≤n)(hn:n≤1000000000)(hne:on≤1000000000)(hx:x.cells=some [x]):
  ∃M',callW code ext 62 [.optr b 0,x] M=some (.tup [],M')∧Bk M' b (n+1) vx vc vn (.osl (M.length+1) 0 3 (on+1) none) (oc++[x,nilS,int64 (n+1)]) (on+1)∧Frm M M' b ox∧M.length+1<M'.length:=by
 obtain⟨B,hM,hB,h0,h4,h5,ho⟩:=k.B
 have hbl:b<M.length:=(List.getElem?_eq_some_iff.1 hM).1
 obtain⟨o',hr,hc⟩:=zid (ext:=ext) h hM hB h0 hn0 hn h5 k.o hne hx k.or
 generalize hB':(B.set 0 (int64 (n+1))).set 5 (.osl (M.length+1) 0 3 (on+1) none)=B' at hc
 have hK:(killV (M.set b (.rich B')) ox).length=M.length:=by rw[ziq];simp
 have hget:∀id,id<M.length→id≠b→id ∉ ox.refs→(killV (M.set b (.rich B')) ox++[mkObj [x,nilS,int64 (n+1)],o'])[id]?=M[id]?:=fun id h1 h2 h3=>by
  rw[List.getElem?_append_left (by omega),zio h3,List.getElem?_set_ne (fun e=>h2 e.symm)]
 refine⟨_,hc,⟨⟨B',?_,by rw[←hB'];simpa using hB,?_,?_,?_,fun j h1 h2 h3 h4'=>?_⟩,zhp k.v fun id hid=>hget id (k.vr id hid).1 (k.vr id hid).2 fun hv=>k.vo id hid hv,.inr ⟨M.length+1,o',rfl,?_,hr,?_,by omega⟩,fun id hid=>?_,fun id hid=>?_,fun id hid=>?_⟩,⟨?_,hget⟩,?_⟩
 ·rw[List.getElem?_append_left (by omega),zio (fun hid=>(k.or b hid).2 rfl)]
  simp[hbl]
 ·rw[←hB',List.getElem?_set_ne (by decide)];simp[hB]
 ·rw[←hB',zte B 5 _ _ (by decide) (by decide)];exact h4
 ·rw[←hB'];simp[hB]
 ·rw[←hB',zte B 5 _ _ (by omega) h4'];exact ho j h1 h2 h3 h4'
 ·rw[List.getElem?_append_right (by omega),hK];simp
 ·have:oc.length=on*3:=by
   rcases k.o with⟨_,rfl,rfl⟩|⟨_,_,_,_,_,h,_⟩
   ·rfl
   ·exact h
  simp;omega
 ·have:=k.vr id hid;simp[hK];omega
 ·simp[AV.refs]at hid;subst hid;simp[hK];omega
 ·have:=k.vr id hid
  simp[AV.refs];omega
 ·simp[hK]
 ·simp[hK]
theorem zbu(k:Bk M b n vx vc vn ox oc on)(o:AObj):Bk (M++[o]) b n vx vc vn ox oc on:=by
 obtain⟨B,hM,h⟩:=k.B
 have hbl:b<M.length:=(List.getElem?_eq_some_iff.1 hM).1
 have hg:∀id,id<M.length→(M++[o])[id]?=M[id]?:=fun id hid=>List.getElem?_append_left hid
 exact⟨⟨B,by rw[hg b hbl];exact hM,h⟩,zhp k.v fun id hid=>hg id (k.vr id hid).1,zhp k.o fun id hid=>hg id (k.or id hid).1,fun id hid=>⟨by have:=(k.vr id hid).1;simp;omega,(k.vr id hid).2⟩,fun id hid=>⟨by have:=(k.or id hid).1;simp;omega,(k.or id hid).2⟩,k.vo⟩
theorem zvw(h:code 14=some x14W){M':Mem}{B':List AV}(hb:M'[b]?=some (.rich B'))(hc:callW code ext 64 [.optr b 0,x] M=some (.tup [],M')):callW code ext 14 [.optr b 0,x] M=some (.tup [],M'):=by
 rw[zb5 code ext h]
 simp -implicitDefEqProofs [x14W,hc]
theorem bk_obj(h9:code 9=some x9W)(h14:code 14=some x14W)(h64:code 64=some x64W)(k:Bk M b n vx vc vn ox oc on)(hn0:0≤n)(hn:n≤1000000000)(hne:vn≤1000000000){c0 c1 c3 c4:AV}(hx:x.cells=some [x]):
  ∃M',callW code ext 9 [.optr b 0,.agg [c0,c1,x,c3,c4]] M=some (.tup [],M')∧Bk M' b (n+1) (.osl (M.length+2) 0 3 (vn+1) none) (vc++[x,nilS,int64 (n+1)]) (vn+1) ox oc on∧Frm M M' b vx∧M.length+2<M'.length:=by
 obtain⟨M',h1,h2,h3,h4⟩:=zbt (ext:=ext) h64 (zbu k (.rich [c0,c1,x,c3,c4])) hn0 hn hne hx
 obtain⟨B',hB',_⟩:=h2.B
 have h5:=zvw (ext:=ext) h14 hB' h1
 simp only[List.length_append,List.length_cons,List.length_nil,Nat.zero_add,Nat.add_assoc,Nat.reduceAdd]at h2 h4
 refine⟨M',?_,h2,⟨by omega,fun id q1 q2 q3=>?_⟩,h4⟩
 ·rw[zb5 code ext h9]
  simp -implicitDefEqProofs [x9W,h5]
 ·rw[h3.same id (by simp;omega) q2 q3,List.getElem?_append_left q1]
end
end Go.EX


namespace Go.EX
structure RO where
 k:AV
 s:AV
 l:AV
 r:AV
 f:AV
def RO.cells(o:RO):List AV:=[o.k,o.s,o.l,o.r,o.f]
def roRow(L:List RO):List AV:=L.flatMap RO.cells
def heldC(n:Int):List AV→List AV
 |[]=>[]
 |x::r=>[x,nilS,int64 (n+1)]++heldC (n+1) r
theorem zhn:∀(l:List AV) (n:Int) (x:AV),heldC n (l++[x])=heldC n l++[x,nilS,int64 (n+l.length+1)]
 |[],n,x=>by simp[heldC]
 |y::r,n,x=>by
  simp only[List.cons_append,heldC,zhn r,List.length_cons,List.append_assoc]
  have:n+1+(r.length:Int)+1=n+((r.length+1:Nat):Int)+1:=by omega
  rw[this]
theorem zq6:∀L:List RO,(roRow L).length=L.length*5
 |[]=>rfl
 |o::r=>by
  have:=zq6 r
  unfold roRow at *
  simp only[List.flatMap_cons,List.length_append,this,List.length_cons]
  simp[RO.cells];omega
theorem zq4:∀(L:List RO) (i:Nat) (o:RO),L[i]?=some o→cut (roRow L) (i*5) 5=some o.cells
 |[],i,o,h=>by simp at h
 |p::r,0,o,h=>by
  simp at h;subst h
  simp[roRow,RO.cells,cut]
 |p::r,i+1,o,h=>by
  have h1:=zq4 r i o (by simpa using h)
  have e:(i+1)*5=p.cells.length+i*5:=by simp[RO.cells];omega
  have hr:roRow (p::r)=p.cells++roRow r:=rfl
  unfold cut at *
  rw[hr,e,List.drop_append,List.drop_eq_nil_of_le (by omega),List.nil_append,Nat.add_sub_cancel_left]
  exact h1
theorem zq5(L:List RO)(rest:List AV)(i:Nat)(o:RO)(h:L[i]?=some o):cut (roRow L++rest) (i*5) 5=some o.cells:=by
 have h1:=zq4 L i o h
 have hi:=(List.getElem?_eq_some_iff.1 h).1
 have hl:=zq6 L
 unfold cut at *
 dsimp only at *
 rw[List.drop_append_of_le_length (by omega),List.take_append_of_le_length (by rw[List.length_drop];omega)]
 exact h1
theorem zrd{M:Mem}{sid off n:Nat}{o:AObj}{cells c:List AV}(hM:M[sid]?=some o)(h:RowO cells o)(hc:cut cells off n=some c):loadAt M (some n) (.optr sid off)=some (.agg c):=by
 rcases h with rfl|⟨cs,rfl,rfl⟩
 ·simp only[loadAt,hM,getCells,hc,Option.map_some]
 ·have:cut (cs.map AV.imm) off n=(cut cs off n).map (·.map AV.imm):=by
   simp only[cut,←List.map_drop,←List.map_take,List.length_map]
   split<;>rfl
  rw[this]at hc
  simp only[loadAt,hM,getCellsI]
  cases hq:cut cs off n with
  |none=>rw[hq]at hc;cases hc
  |some r=>rw[hq]at hc;cases hc;rfl
theorem zrg{cells:List AV}{o:AObj}(h:RowO cells o):o.moved=false:=by
 rcases h with rfl|⟨cs,rfl,_⟩<;>rfl
section
variable {code:Nat→Option XFun} {ext:Calls'} {M:Mem} {b:Nat} {n:Int} {vx ox x:AV} {vc oc:List AV} {vn on:Nat}
structure Took (M M':Mem) (b:Nat) (vx vx':AV):Prop where
 len:M.length≤M'.length
 same:∀id,id<M.length→id≠b→id ∉ vx.refs→M'[id]?=M[id]?
 new:∀id∈vx'.refs,id∈vx.refs∨M.length≤id
theorem zne(h9:code 9=some x9W)(h14:code 14=some x14W)(h64:code 64=some x64W)(k:Bk M b n vx vc vn ox oc on){L:List RO}(hL:L.length≤100000000)(hn0:0≤n)(hn:n≤100000000)(hne:vn≤100000000)
  (hl:∀o∈L,o.l.cells=some [o.l]) {sid:Nat} {cap:Option Nat} {o:AObj} (hs:M[sid]?=some o) {rest:List AV} (hr:RowO (roRow L++rest) o) (hsb:sid≠b) (hsv:sid ∉ vx.refs) {s:St}
  (hst:s.tidy [1000000,0,1,4]=⟨M.length,[(1000000,.junk),(0,.optr b 0),(1,.osl sid 0 5 L.length cap),(4,int64 0)],M⟩):
  ∃e s',den code ext (.loop [1000000,0,1,4] x10WL1) s=some (e,s')∧e≠ .normal∧
   (e=.exit 0∧∃M' vx',s'=⟨M.length,[(0,.optr b 0),(1,.osl sid 0 5 L.length cap),(4,int64 L.length),(8,avb false)],M'⟩∧Bk M' b (n+L.length) vx' (vc++heldC n (L.map (·.l))) (vn+L.length) ox oc on∧Took M M' b vx vx'):=by
 refine zjp (fun m s=>∃(i:Nat) (Mi:Mem) (vi:AV),i+m=L.length∧s.tidy [1000000,0,1,4]=⟨M.length,[(1000000,.junk),(0,.optr b 0),(1,.osl sid 0 5 L.length cap),(4,int64 (i:Nat))],Mi⟩∧
  Bk Mi b (n+i) vi (vc++heldC n ((L.take i).map (·.l))) (vn+i) ox oc on∧Took M Mi b vx vi) _ ?_ L.length _ ⟨0,M,vx,by simp,by simpa using hst,by simpa [heldC]using k,⟨Nat.le_refl _,fun _ _ _ _=>rfl,fun id h=>.inl h⟩⟩
 clear hst
 rintro m s ⟨i,Mi,vi,hi,hst,ki,ti⟩
 rw[hst]
 have hsl:sid<M.length:=(List.getElem?_eq_some_iff.1 hs).1
 have hsi:Mi[sid]?=some o:=by rw[ti.same sid hsl hsb hsv];exact hs
 by_cases hlt:i<L.length
 ·have hgi:=List.getElem?_eq_getElem hlt
  have htk:(L.take (i+1)).map (·.l)=(L.take i).map (·.l)++[L[i].l]:=by rw[List.take_add_one,hgi,List.map_append];rfl
  have hld:=zrd hsi hr (zq5 L rest i _ hgi)
  have hxl:=hl _ (List.getElem_mem hlt)
  generalize L[i]=w at hld hxl htk
  obtain⟨wk,ws,wl,wr,wf⟩:=w
  simp only[RO.cells]at hld hxl htk
  obtain⟨Mn,c1,kn,fn,ln⟩:=bk_obj (ext:=ext) h9 h14 h64 ki (c0:=wk) (c1:=ws) (c3:=wr) (c4:=wf) (by omega) (by omega) (by omega) hxl
  have hsi':sid ∉ vi.refs:=fun hm=>by
   rcases ti.new sid hm with h|h
   ·exact hsv h
   ·omega
  have hsn:Mn[sid]?=some o:=by rw[fn.same sid (by have:=ti.len;omega) hsb hsi'];exact hsi
  obtain⟨Bn,hbn,_⟩:=kn.B
  have hmo:=zrg hr
  have e1:IntKind.wrap .i64 ((i:Int)+1)=(i:Int)+1:=wrapI64 (by omega) (by omega)
  have hlt':(i:Int)<L.length:=by omega
  refine⟨.normal,⟨M.length,[(0,.optr b 0),(1,.osl sid 0 5 L.length cap),(4,int64 ((i:Int)+1))],Mn⟩,?_,.inl ⟨rfl,m-1,by omega,i+1,Mn,.osl (Mi.length+2) 0 3 (vn+i+1) none,by omega,?_,?_,?_⟩⟩
  ·have hmb:(AObj.rich Bn).moved=false:=rfl
   simp -implicitDefEqProofs [x10WL1,hlt,hlt',hld,-loadAt,c1,hbn,hsn,hmo,hmb,-AObj.moved,e1]
  ·simp -implicitDefEqProofs []
  ·rw[htk,zhn,←List.append_assoc]
   have q1:((L.take i).map (·.l)).length=i:=by rw[List.length_map,List.length_take];omega
   rw[q1]
   have q2:n+((i+1:Nat):Int)=n+i+1:=by omega
   rw[q2]
   exact kn
  ·have:=ti.len
   refine⟨by have:=fn.len;omega,fun id q1 q2 q3=>?_,fun id hid=>.inr ?_⟩
   ·rw[fn.same id (by omega) q2 fun hm=>?_]
    ·exact ti.same id q1 q2 q3
    ·rcases ti.new id hm with h|h
     ·exact q3 h
     ·omega
   ·simp[AV.refs]at hid;omega
 ·have:i=L.length:=by omega
  subst this
  refine⟨.exit 0,⟨M.length,[(0,.optr b 0),(1,.osl sid 0 5 L.length cap),(4,int64 L.length),(8,avb false)],Mi⟩,?_,.inr ⟨by simp,rfl,Mi,vi,rfl,by rw[List.take_length]at ki;exact ki,ti⟩⟩
  simp -implicitDefEqProofs [x10WL1]
theorem zbv(h12:code 12=some x12W)(h10:code 10=some x10W)(h62:code 62=some x62W)(h9:code 9=some x9W)(h14:code 14=some x14W)(h64:code 64=some x64W)(k:Bk M b n vx vc vn ox oc on){L:List RO}(hL:L.length≤100000000)(hn0:0≤n)(hn:n≤100000000)(hne:vn≤100000000)(hno:on≤100000000)
  (hl:∀o∈L,o.l.cells=some [o.l]) {sid:Nat} {cap:Option Nat} {o:AObj} (hs:M[sid]?=some o) {rest:List AV} (hr:RowO (roRow L++rest) o) (hsb:sid≠b) (hsv:sid ∉ vx.refs) (hso:sid ∉ ox.refs):
  ∃M' vx' id',callW code ext 12 [.optr b 0,.osl sid 0 5 L.length cap] M=some (.tup [],M')∧Bk M' b (n+L.length+1) vx' (vc++heldC n (L.map (·.l))) (vn+L.length) (.osl id' 0 3 (on+1) none) (oc++[.osl sid 0 5 L.length cap,nilS,int64 (n+L.length+1)]) (on+1)∧
   (M.length≤M'.length∧M.length≤id'∧(∀id∈vx'.refs,id∈vx.refs∨M.length≤id)∧∀id,id<M.length→id≠b→id ∉ vx.refs→id ∉ ox.refs→M'[id]?=M[id]?):=by
 obtain⟨B,hM,_⟩:=k.B
 have hsl:sid<M.length:=(List.getElem?_eq_some_iff.1 hs).1
 obtain⟨e,s',h1,_,rfl,M1,v1,rfl,k1,t1⟩:=zne (ext:=ext) h9 h14 h64 k hL hn0 hn hne hl (cap:=cap) hs hr hsb hsv (s:=⟨M.length,[(0,.optr b 0),(1,.osl sid 0 5 L.length cap),(4,int64 0)],M⟩) (by simp -implicitDefEqProofs [])
 obtain⟨M2,c2,k2,f2,l2⟩:=zbs (ext:=ext) h62 k1 (x:=.osl sid 0 5 L.length cap) (by omega) (by omega) (by omega) rfl
 have h3:callW code ext 10 [.optr b 0,.osl sid 0 5 L.length cap] M=some (.tup [],M2):=by
  rw[zb5 code ext h10]
  simp -implicitDefEqProofs [x10W,h1,c2]
 refine⟨M2,v1,M1.length+1,?_,k2,by have:=t1.len;omega,by have:=t1.len;omega,t1.new,fun id q1 q2 q3 q4=>?_⟩
 ·rw[zb5 code ext h12]
  simp -implicitDefEqProofs [x12W,h3]
 ·rw[f2.same id (by have:=t1.len;omega) q2 q4]
  exact t1.same id q1 q2 q3
end
end Go.EX


namespace Go.EX
theorem zwl:x34W=fillB 2 4 420:=rfl
theorem zwk:x28W=fillB 5 5 414:=rfl
theorem zwn:x54W=growB 2 16 [(.int .u8 0),(.int .i64 0)] 4 420:=rfl
theorem zwm:x48W=growB 5 64 [(.int .u8 0),(.string .empty),(.slice none 0 0),(.int .i64 0),(.int .i64 0)] 5 414:=rfl
theorem zwp:x84W=lookB 2 4 400:=rfl
theorem zwo:x78W=lookB 5 5 394:=rfl
end Go.EX


namespace Go.EX
theorem ztc{β:Type}(A B C D:List β)(h:B.length=D.length){k:Nat}(hk:A.length=k):setAll (A++(B++C)) k D=A++(D++C):=by
 subst hk
 refine List.ext_getElem? fun j=>?_
 rw[zs3 _ _ _ _ (by simp only[List.length_append];omega)]
 simp only[List.getElem?_append]
 by_cases h1:j<A.length
 ·rw[if_neg (by omega),if_pos h1,if_pos h1]
 ·by_cases h2:j-A.length<D.length
  ·rw[if_pos (by omega),if_neg h1,if_pos h2]
  ·rw[if_neg (by omega),if_neg h1,if_neg h1,if_neg (by omega),if_neg h2,h]
theorem zdt{β:Type}(l:List β):∀n,copies n l++l=copies (n+1) l
 |0=>by simp[copies]
 |n+1=>by
  have:=zdt l n
  rw[copies,List.append_assoc,this];rfl
theorem zdr{β:Type}(l:List β):∀n,(copies n l).length=n*l.length
 |0=>by simp[copies]
 |n+1=>by rw[copies,List.length_append,zdr l n,Nat.add_mul,Nat.one_mul,Nat.add_comm]
theorem ztd{M:Mem}{id:Nat}{o:AObj}(h:M[id]?=some o):M.set id o=M:=by
 refine List.ext_getElem? fun j=>?_
 by_cases hj:id=j
 ·subst hj
  rw[List.getElem?_set_self (List.getElem?_eq_some_iff.1 h).1,h]
 ·rw[List.getElem?_set_ne hj]
theorem zs6:∀(ys l:List IV) (k:Nat),setAll (l.map AV.imm) k (ys.map AV.imm)=(setAll l k ys).map AV.imm
 |[],l,k=>rfl
 |y::ys,l,k=>by simp only[List.map_cons,setAll,←List.map_set,zs6 ys]
theorem zrk{M:Mem}{id off:Nat}{o:AObj}{cells:List AV}{xs:List IV}(hM:M[id]?=some o)(h:RowO cells o)(hl:off+xs.length≤cells.length):
  ∃o',RowO (setAll cells off (xs.map .imm)) o'∧storeAt M (.optr id off) (xs.map .imm)=some (M.set id o'):=by
 rcases h with rfl|⟨cs,rfl,rfl⟩
 ·exact⟨_,.inl rfl,by simp only[storeAt,hM,List.length_map];rw[if_pos hl]⟩
 ·refine⟨.flat (setAll cs off xs) false,.inr ⟨_,rfl,zs6 xs cs off⟩,?_⟩
  rw[List.length_map]at hl
  simp only[storeAt,hM,imms_imm]
  rw[if_pos hl]
def KX(M:Mem)(sz:Nat)(x:AV)(len:Nat)(cells:List AV):Prop:=
 (∃rid c ob,x=.osl rid 0 sz len (some c)∧M[rid]?=some ob∧RowO cells ob∧cells.length=c*sz∧len≤c∧c≤len+1)∨(len=0∧cells=[]∧(x=nilS∨∃row off,x=.imm (.slice row off 0 (some 0))))
structure KE where
 x:AV
 lg:AV
 n:Int
 len:Nat
 cells:List AV
def KE.c3(e:KE):List AV:=[e.x,e.lg,int64 e.n]
def entC(E:List KE):List AV:=E.flatMap KE.c3
def refsE(E:List KE):List Nat:=E.flatMap fun e=>e.x.refs
theorem zez:∀E:List KE,(entC E).length=E.length*3
 |[]=>rfl
 |e::r=>by
  have:=zez r
  unfold entC at *
  simp only[List.flatMap_cons,List.length_append,this,List.length_cons]
  simp[KE.c3];omega
theorem zey:∀(E:List KE) (i:Nat) (e:KE),E[i]?=some e→cut (entC E) (i*3) 3=some e.c3
 |[],i,o,h=>by simp at h
 |p::r,0,o,h=>by
  simp at h;subst h
  simp[entC,KE.c3,cut]
 |p::r,i+1,o,h=>by
  have h1:=zey r i o (by simpa using h)
  have e:(i+1)*3=p.c3.length+i*3:=by simp[KE.c3];omega
  have hr:entC (p::r)=p.c3++entC r:=rfl
  unfold cut at *
  rw[hr,e,List.drop_append,List.drop_eq_nil_of_le (by omega),List.nil_append,Nat.add_sub_cancel_left]
  exact h1
theorem kx_len{M:Mem}{sz len:Nat}{x:AV}{cells:List AV}(h:KX M sz x len cells):lenOf x=some len:=by
 rcases h with⟨rid,c,ob,rfl,_⟩|⟨rfl,_,rfl|⟨row,off,rfl⟩⟩<;>rfl
theorem zis{M M':Mem}{sz len:Nat}{x:AV}{cells:List AV}(h:KX M sz x len cells)(hs:∀id∈x.refs,M'[id]?=M[id]?):KX M' sz x len cells:=by
 rcases h with⟨rid,c,ob,rfl,ho,hr⟩|h
 ·exact .inl ⟨rid,c,ob,rfl,by rw[hs rid (by simp[AV.refs])];exact ho,hr⟩
 ·exact .inr h
theorem kx_lt{M:Mem}{sz len:Nat}{x:AV}{cells:List AV}(h:KX M sz x len cells):∀id∈x.refs,id<M.length:=by
 intro id hid
 rcases h with⟨rid,c,ob,rfl,ho,hr⟩|⟨_,_,rfl|⟨row,off,rfl⟩⟩
 ·simp[AV.refs]at hid;subst hid;exact(List.getElem?_eq_some_iff.1 ho).1
 ·simp[AV.refs]at hid
 ·simp[AV.refs]at hid
section
variable {code:Nat→Option XFun} {ext:Calls'}
theorem zf8{sz f mk:Nat}{n:Int}{ms:List IV}(hmk:∀s,exView (callW code ext) s mk [int64 n]=some (.agg (ms.map .imm),s))(hms:ms.length=sz){K b h rid len:Nat}{j:Int}{M:Mem}{lg:AV}{cap:Option Nat}{ob:AObj}{cells:List AV}
  (hh:M[h]?=some (.rich [.osl rid 0 sz len cap,lg,int64 n])) (hrh:rid≠h) (ho:M[rid]?=some ob) (hr:RowO cells ob) (hl:len*sz≤cells.length) (hb:len≤1000000000) {s:St}
  (hst:s.tidy [1000000,0,2,3,4]=⟨K,[(1000000,.junk),(0,.optr b 0),(2,int64 j),(3,.optr h 0),(4,int64 0)],M⟩):
  ∃e s',den code ext (.loop [1000000,0,2,3,4] (fillBL1 sz f mk)) s=some (e,s')∧e≠ .normal∧
   (e=.exit 2∧∃ob',RowO (copies len (ms.map AV.imm)++cells.drop (len*sz)) ob'∧s'=⟨K,[(0,.optr b 0),(2,int64 j),(3,.optr h 0),(4,int64 len),(25,avb false)],M.set rid ob'⟩):=by
 refine zjp (fun m s=>∃(k:Nat) (obk:AObj),k+m=len∧RowO (copies k (ms.map AV.imm)++cells.drop (k*sz)) obk∧s.tidy [1000000,0,2,3,4]=⟨K,[(1000000,.junk),(0,.optr b 0),(2,int64 j),(3,.optr h 0),(4,int64 (k:Nat))],M.set rid obk⟩) _ ?_ len _
  ⟨0,ob,by simp,by simpa [copies]using hr,by rw[ztd ho];simpa using hst⟩
 clear hst
 rintro m s ⟨k,obk,hk,hrk,hst⟩
 rw[hst]
 have hrl:rid<M.length:=(List.getElem?_eq_some_iff.1 ho).1
 have hMh:(M.set rid obk)[h]?=some (.rich [.osl rid 0 sz len cap,lg,int64 n]):=by rw[List.getElem?_set_ne hrh];exact hh
 have hMr:(M.set rid obk)[rid]?=some obk:=by simp[hrl]
 have l0:loadAt (M.set rid obk) none (.optr h 0)=some (.osl rid 0 sz len cap):=by simp only[loadAt,hMh];rfl
 have l2:loadAt (M.set rid obk) none (.optr h 2)=some (int64 n):=by simp only[loadAt,hMh];rfl
 by_cases hlt:k<len
 ·have e1:IntKind.wrap .i64 ((k:Int)+1)=(k:Int)+1:=wrapI64 (by omega) (by omega)
  have hlt':(k:Int)<len:=by omega
  have hmul:(k+1)*sz≤cells.length:=Nat.le_trans (Nat.mul_le_mul_right _ hlt) hl
  have hks:(k+1)*sz=k*sz+sz:=by rw[Nat.add_mul,Nat.one_mul]
  have hcl:(copies k (ms.map AV.imm)).length=k*sz:=by rw[zdr,List.length_map,hms]
  obtain⟨o2,hr2,hs2⟩:=zrk (xs:=ms) (off:=k*sz) hMr hrk (by rw[List.length_append,hcl,List.length_drop,hms];omega)
  rw[List.set_set]at hs2
  have hsp:cells.drop (k*sz)=(cells.drop (k*sz)).take sz++cells.drop ((k+1)*sz):=by
   rw[hks,←List.drop_drop,List.take_append_drop]
  rw[hsp,ztc _ _ _ _ (by rw[List.length_map,List.length_take,List.length_drop,hms];omega) hcl,←List.append_assoc,zdt]at hr2
  refine⟨.normal,⟨K,[(0,.optr b 0),(2,int64 j),(3,.optr h 0),(4,int64 ((k:Int)+1))],M.set rid o2⟩,?_,.inl ⟨rfl,m-1,by omega,k+1,o2,by omega,hr2,?_⟩⟩
  ·simp -implicitDefEqProofs [fillBL1,l0,l2,-loadAt,hlt,hlt',hmk,-exView,hms,hs2,-storeAt,e1]
  ·simp -implicitDefEqProofs []
 ·have:k=len:=by omega
  subst this
  refine⟨.exit 2,⟨K,[(0,.optr b 0),(2,int64 j),(3,.optr h 0),(4,int64 k),(25,avb false)],M.set rid obk⟩,?_,.inr ⟨by simp,rfl,obk,hrk,rfl⟩⟩
  simp -implicitDefEqProofs [fillBL1,l0,-loadAt]
end
end Go.EX


namespace Go.EX
theorem zho{M:Mem}{x:AV}{c:List AV}{n:Nat}(h:HeldAt M x c n):lenOf x=some n:=by
 rcases h with⟨rfl,rfl,rfl⟩|⟨vid,o,rfl,_⟩<;>rfl
structure HoldK (M:Mem) (b f:Nat) (vx:AV) (E:List KE):Prop where
 B:∃B,M[b]?=some (.rich B)∧B[f]?=some vx
 h:HeldAt M vx (entC E) E.length
 own:∀id∈refsE E,id≠b∧id ∉ vx.refs
 nd:(refsE E).Nodup
theorem zhq{M M':Mem}{b f:Nat}{vx:AV}{E:List KE}(h:HoldK M b f vx E)(hb:M'[b]?=M[b]?)(hv:∀id∈vx.refs,M'[id]?=M[id]?):HoldK M' b f vx E:=by
 obtain⟨B,h1,h2⟩:=h.B
 exact⟨⟨B,by rw[hb];exact h1,h2⟩,zhp h.h hv,h.own,h.nd⟩
theorem zp0(E:List KE)(e:KE):refsE (E++[e])=refsE E++e.x.refs:=by simp[refsE]
section
variable {code:Nat→Option XFun} {ext:Calls'}
theorem zf9{g sz f mk:Nat}(hg:code g=some (fillB sz f mk)){mi:Int→List IV}{R:Int→Prop}(hmk:∀s n,R n→exView (callW code ext) s mk [int64 n]=some (.agg ((mi n).map .imm),s))(hms:∀n,(mi n).length=sz)
  {M:Mem} {b:Nat} {vx:AV} {E:List KE} (hk:HoldK M b f vx E) (hbl:b<M.length) (hE:E.length≤1000000000) (hEn:∀e∈E,R e.n) (hx:∀e∈E,KX M sz e.x e.len e.cells∧e.len≤1000000000) (hvl:∀id∈vx.refs,id<M.length):
  ∃M',callW code ext g [.optr b 0] M=some (.tup [],M')∧M.length≤M'.length∧(∀id,id<M.length→id ∉ refsE E→M'[id]?=M[id]?)∧∀e∈E,KX M' sz e.x e.len (copies e.len ((mi e.n).map .imm)++e.cells.drop (e.len*sz)):=by
 have hloop:∃e s',den code ext (.loop [1000000,0,2] (fillBL2 sz f mk)) ⟨M.length,[(0,.optr b 0),(2,int64 0)],M⟩=some (e,s')∧e≠ .normal∧
   (e=.exit 0∧∃M',s'=⟨M.length,[(0,.optr b 0),(2,int64 E.length),(11,avb false)],M'⟩∧M.length≤M'.length∧(∀id,id<M.length→id ∉ refsE E→M'[id]?=M[id]?)∧∀e∈E,KX M' sz e.x e.len (copies e.len ((mi e.n).map .imm)++e.cells.drop (e.len*sz))):=by
  refine zjp (fun m s=>∃(i:Nat) (Mi:Mem),i+m=E.length∧s.tidy [1000000,0,2]=⟨M.length,[(1000000,.junk),(0,.optr b 0),(2,int64 (i:Nat))],Mi⟩∧M.length≤Mi.length∧(∀id,id<M.length→id ∉ refsE (E.take i)→Mi[id]?=M[id]?)∧
   ∀e∈E.take i,KX Mi sz e.x e.len (copies e.len ((mi e.n).map .imm)++e.cells.drop (e.len*sz))) _ ?_ E.length _ ⟨0,M,by simp,by simp -implicitDefEqProofs [],Nat.le_refl _,fun _ _ _=>rfl,fun e he=>by simp at he⟩
  rintro m s ⟨i,Mi,hi,hst,hlen,hsame,hdone⟩
  rw[hst]
  have hsub:∀id∈refsE (E.take i),id∈refsE E:=fun id hid=>by
   obtain⟨e,he,hid⟩:=List.mem_flatMap.1 hid
   exact List.mem_flatMap.2 ⟨e,List.mem_of_mem_take he,hid⟩
  have hki:HoldK Mi b f vx E:=zhq hk (hsame b hbl fun hm=>(hk.own b (hsub b hm)).1 rfl) fun id hid=>hsame id (hvl id hid) fun hm=>(hk.own id (hsub id hm)).2 hid
  obtain⟨B,hB,hBf⟩:=hki.B
  have lb:loadAt Mi none (.optr b f)=some vx:=by simp only[loadAt,hB];exact hBf
  have hlx:=zho hki.h
  by_cases hlt:i<E.length
  ·have hlt':(i:Int)<E.length:=by omega
   have e1:IntKind.wrap .i64 ((i:Int)+1)=(i:Int)+1:=wrapI64 (by omega) (by omega)
   have hgi:=List.getElem?_eq_getElem hlt
   have hmke:=fun s=>hmk s _ (hEn _ (List.getElem_mem hlt))
   obtain⟨hxi,hle⟩:=hx _ (List.getElem_mem hlt)
   have htk:E.take (i+1)=E.take i++[E[i]]:=by rw[List.take_add_one,hgi];rfl
   have hcut:=zey E i _ hgi
   have hnd:∀id∈(E[i]).x.refs,id ∉ refsE (E.take i):=by
    have h1:=hk.nd
    rw[←List.take_append_drop (i+1) E,htk]at h1
    unfold refsE at h1
    simp only[List.flatMap_append,List.flatMap_cons,List.flatMap_nil,List.append_nil,List.append_assoc]at h1
    rw[List.nodup_append]at h1
    intro id hid hm
    exact h1.2.2 id hm id (List.mem_append_left _ hid) rfl
   generalize E[i]=e at hmke hxi hle htk hcut hnd
   obtain⟨x,lg,n,len,cells⟩:=e
   dsimp only at hmke
   simp only[KE.c3]at hcut hxi hle hnd
   rcases hki.h with⟨_,_,h0⟩|⟨vid,vo,rfl,hvo,hvr,_,_⟩
   ·omega
   have lv:=zrd hvo hvr hcut
   have hx':KX Mi sz x len cells:=zis hxi fun id hid=>hsame id (kx_lt hxi id hid) (hnd id hid)
   have hst3:storeAt (Mi++[.rich [nilS,nilS,int64 0]]) (.optr Mi.length 0) [x,lg,int64 n]=some (Mi++[.rich [x,lg,int64 n]]):=by
    simp[storeAt,setAll]
   have hh:(Mi++[.rich [x,lg,int64 n]])[Mi.length]?=some (.rich [x,lg,int64 n]):=zg7 _ _
   have lx:=kx_len hx'
   have lh0:loadAt (Mi++[.rich [x,lg,int64 n]]) none (.optr Mi.length 0)=some x:=by simp only[loadAt,hh];rfl
   have hin:∃M2,den code ext (.loop [1000000,0,2,3,4] (fillBL1 sz f mk)) ⟨M.length,[(0,.optr b 0),(2,int64 (i:Nat)),(3,.optr Mi.length 0),(4,int64 0)],Mi++[.rich [x,lg,int64 n]]⟩=some (.exit 2,⟨M.length,[(0,.optr b 0),(2,int64 (i:Nat)),(3,.optr Mi.length 0),(4,int64 len),(25,avb false)],M2⟩)∧
     Mi.length<M2.length∧(∀id,id<Mi.length→id ∉ x.refs→M2[id]?=Mi[id]?)∧KX M2 sz x len (copies len ((mi n).map .imm)++cells.drop (len*sz)):=by
    rcases hx' with⟨rid,c,ob,rfl,hro,hrr,hcl,hlc,hc2⟩|⟨rfl,rfl,hx0⟩
    ·have hrl:rid<Mi.length:=(List.getElem?_eq_some_iff.1 hro).1
     have hfit:len*sz≤cells.length:=by rw[hcl];exact Nat.mul_le_mul_right _ hlc
     have hro':(Mi++[.rich [.osl rid 0 sz len (some c),lg,int64 n]])[rid]?=some ob:=by rw[List.getElem?_append_left hrl];exact hro
     obtain⟨e,s',h1,_,rfl,ob',hr',rfl⟩:=zf8 (K:=M.length) (b:=b) (j:=(i:Int)) (f:=f) hmke (hms n) hh (by omega) hro' hrr hfit hle
      (s:=⟨M.length,[(0,.optr b 0),(2,int64 (i:Nat)),(3,.optr Mi.length 0),(4,int64 0)],Mi++[.rich [.osl rid 0 sz len (some c),lg,int64 n]]⟩) (by simp -implicitDefEqProofs [])
     refine⟨_,h1,by simp,fun id h3 h4=>?_,.inl ⟨rid,c,ob',rfl,?_,hr',?_,hlc,hc2⟩⟩
     ·rw[List.getElem?_set_ne (fun e=>h4 (by simp[AV.refs,e])),List.getElem?_append_left h3]
     ·exact List.getElem?_set_self (by simp;omega)
     ·rw[List.length_append,zdr,List.length_map,hms,List.length_drop]
      omega
    ·refine⟨Mi++[.rich [x,lg,int64 n]],?_,by simp,fun id h3 h4=>List.getElem?_append_left h3,.inr ⟨rfl,by simp[copies],hx0⟩⟩
     rw[zeb]
     rcases hx0 with rfl|⟨row,off,rfl⟩
     ·simp -implicitDefEqProofs [fillBL1,lh0,-loadAt]
     ·simp -implicitDefEqProofs [fillBL1,lh0,-loadAt]
   obtain⟨M2,h1,h2,h3,h4⟩:=hin
   refine⟨.normal,⟨M.length,[(0,.optr b 0),(2,int64 ((i:Int)+1))],M2⟩,?_,.inl ⟨rfl,m-1,by omega,i+1,M2,by omega,by simp -implicitDefEqProofs [],by omega,fun id q1 q2=>?_,fun e he=>?_⟩⟩
   ·simp -implicitDefEqProofs [fillBL2,lb,-loadAt,hlt,hlt',lv,hst3,-storeAt,h1,e1]
   ·rw[htk,zp0,List.mem_append,not_or]at q2
    rw[h3 id (by omega) q2.2]
    exact hsame id q1 q2.1
   ·rw[htk]at he
    rcases List.mem_append.1 he with he|he
    ·have hne:∀id∈e.x.refs,id ∉ x.refs:=fun id hid hm=>hnd id hm (List.mem_flatMap.2 ⟨e,he,hid⟩)
     exact zis (hdone e he) fun id hid=>h3 id (kx_lt (hdone e he) id hid) (hne id hid)
    ·simp at he
     subst he
     exact h4
  ·have:i=E.length:=by omega
   subst this
   rw[List.take_length]at hsame hdone
   refine⟨.exit 0,⟨M.length,[(0,.optr b 0),(2,int64 E.length),(11,avb false)],Mi⟩,?_,.inr ⟨by simp,rfl,Mi,rfl,hlen,hsame,hdone⟩⟩
   simp -implicitDefEqProofs [fillBL2,lb,-loadAt,hlx]
 obtain⟨e,s',h1,_,rfl,M',rfl,h2,h3,h4⟩:=hloop
 refine⟨M',?_,h2,h3,h4⟩
 rw[zb5 code ext hg]
 simp -implicitDefEqProofs [fillB,h1]
end
end Go.EX

