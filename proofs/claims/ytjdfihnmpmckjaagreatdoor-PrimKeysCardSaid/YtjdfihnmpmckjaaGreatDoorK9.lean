import Derived.Test.YtjdfihnmpmckjaaGreatDoorK1
import Derived.Test.YtjdfihnmpmckjaaGreatDoorK7
import Derived.Test.YtjdfihnmpmckjaaGreatDoorK6
import Derived.Laws.Strings
import Derived.Test.YtjdfihnmpmckjaaGreatDoorK5
namespace Go.EX
def zkj(sz:Nat)(f:Nat)(mk:Nat):XCode:=
 (.seq (.seq (.region [0,2,3,4,25] [⟨(some 21),.mv (.t 4),none⟩,
  ⟨(some 22),.fieldA 0 (.t 3),none⟩,
  ⟨(some 23),.load none (.t 22),none⟩,
  ⟨(some 24),.len (.t 23),none⟩,
  ⟨(some 25),.bin .lss (.t 21) (.t 24),none⟩])
 (.cond (.t 25)
  .skip
  (.exit 2)))
 (.seq (.block 3 (.region [0,2,3,4] [⟨(some 28),.fieldA 0 (.t 3),none⟩,
  ⟨(some 29),.load none (.t 28),none⟩,
  ⟨(some 30),.mv (.t 4),none⟩,
  ⟨(some 31),.fieldA 2 (.t 3),none⟩,
  ⟨(some 32),.load none (.t 31),none⟩,
  ⟨(some 33),.call .view mk [(.t 32)],none⟩,
  ⟨(some 34),.idxA sz (.t 29) (.t 30),none⟩,
  ⟨none,.store sz (.t 34) (.t 33),none⟩]))
 (.region [0,2,3,4] [⟨(some 26),.mv (.t 4),none⟩,
  ⟨(some 27),.bin .add (.t 26) (.c (.int .i64 1)),none⟩,
  ⟨(some 4),.mv (.t 27),none⟩])))
def zn1(sz:Nat)(f:Nat)(mk:Nat):XCode:=
 (.seq (.seq (.region [0,2,11] [⟨(some 5),.mv (.t 2),none⟩,
  ⟨(some 6),.mv (.t 0),none⟩,
  ⟨(some 7),.nilCheck (.t 6),none⟩,
  ⟨(some 8),.fieldA f (.t 7),none⟩,
  ⟨(some 9),.load none (.t 8),none⟩,
  ⟨(some 10),.len (.t 9),none⟩,
  ⟨(some 11),.bin .lss (.t 5) (.t 10),none⟩])
 (.cond (.t 11)
  .skip
  (.exit 0)))
 (.seq (.block 1 (.seq (.region [0,2,3] [⟨(some 14),.mv (.t 0),none⟩,
  ⟨(some 15),.nilCheck (.t 14),none⟩,
  ⟨(some 16),.fieldA f (.t 15),none⟩,
  ⟨(some 17),.load none (.t 16),none⟩,
  ⟨(some 18),.mv (.t 2),none⟩,
  ⟨(some 19),.idxA 3 (.t 17) (.t 18),none⟩,
  ⟨(some 20),.load (some 3) (.t 19),none⟩,
  ⟨(some 3),.alloc [(.slice none 0 0),(.slice none 0 0),(.int .i64 0)],none⟩,
  ⟨none,.store 3 (.t 3) (.t 20),none⟩])
 (.seq (.region [0,2,3,4] [⟨(some 4),.mv (.c (.int .i64 0)),none⟩])
 (.block 2 (.loop [1000000,0,2,3,4] (zkj sz f mk))))))
 (.region [0,2] [⟨(some 12),.mv (.t 2),none⟩,
  ⟨(some 13),.bin .add (.t 12) (.c (.int .i64 1)),none⟩,
  ⟨(some 2),.mv (.t 13),none⟩])))
def zcw(sz:Nat)(f:Nat)(mk:Nat):zab:=⟨[.whole],
 (.seq (.region [0,2] [⟨(some 2),.mv (.c (.int .i64 0)),none⟩])
 (.block 0 (.loop [1000000,0,2] (zn1 sz f mk))))⟩
def zqj(sz:Nat)(by_:Nat)(zs:List Value)(f:Nat)(mk:Nat):XCode:=
 (.seq (.seq (.region [0,2,3,4,5,25] [⟨(some 24),.mv (.t 5),none⟩,
  ⟨(some 25),.bin .lss (.t 24) (.c (.int .i64 40)),none⟩])
 (.cond (.t 25)
  .skip
  (.exit 2)))
 (.seq (.block 3 (.region [0,2,3,4,5] [⟨(some 28),.mv (.t 4),none⟩,
  ⟨(some 29),.fieldA 2 (.t 3),none⟩,
  ⟨(some 30),.load none (.t 29),none⟩,
  ⟨(some 31),.call .view mk [(.t 30)],none⟩,
  ⟨(some 32),.buildSlice sz zs 1 [(0,sz,(.t 31))],none⟩,
  ⟨(some 33),.appendN sz by_ (.t 28) (.t 32),none⟩,
  ⟨(some 4),.mv (.t 33),none⟩]))
 (.region [0,2,3,4,5] [⟨(some 26),.mv (.t 5),none⟩,
  ⟨(some 27),.bin .add (.t 26) (.c (.int .i64 1)),none⟩,
  ⟨(some 5),.mv (.t 27),none⟩])))
def zn4(sz:Nat)(by_:Nat)(zs:List Value)(f:Nat)(mk:Nat):XCode:=
 (.seq (.seq (.region [0,2,12] [⟨(some 6),.mv (.t 2),none⟩,
  ⟨(some 7),.mv (.t 0),none⟩,
  ⟨(some 8),.nilCheck (.t 7),none⟩,
  ⟨(some 9),.fieldA f (.t 8),none⟩,
  ⟨(some 10),.load none (.t 9),none⟩,
  ⟨(some 11),.len (.t 10),none⟩,
  ⟨(some 12),.bin .lss (.t 6) (.t 11),none⟩])
 (.cond (.t 12)
  .skip
  (.exit 0)))
 (.seq (.block 1 (.seq (.region [0,2,3] [⟨(some 15),.mv (.t 0),none⟩,
  ⟨(some 16),.nilCheck (.t 15),none⟩,
  ⟨(some 17),.fieldA f (.t 16),none⟩,
  ⟨(some 18),.load none (.t 17),none⟩,
  ⟨(some 19),.mv (.t 2),none⟩,
  ⟨(some 20),.idxA 3 (.t 18) (.t 19),none⟩,
  ⟨(some 21),.load (some 3) (.t 20),none⟩,
  ⟨(some 3),.alloc [(.slice none 0 0),(.slice none 0 0),(.int .i64 0)],none⟩,
  ⟨none,.store 3 (.t 3) (.t 21),none⟩])
 (.seq (.region [0,2,3,4] [⟨(some 22),.fieldA 0 (.t 3),none⟩,
  ⟨(some 23),.load none (.t 22),none⟩,
  ⟨(some 4),.mv (.t 23),none⟩])
 (.seq (.seq (.region [0,2,3,4,5] [⟨(some 5),.mv (.c (.int .i64 0)),none⟩])
 (.block 2 (.loop [1000000,0,2,3,4,5] (zqj sz by_ zs f mk))))
 (.region [0,2] [⟨(some 34),.mv (.t 0),none⟩,
  ⟨(some 35),.nilCheck (.t 34),none⟩,
  ⟨(some 36),.fieldA f (.t 35),none⟩,
  ⟨(some 37),.load none (.t 36),none⟩,
  ⟨(some 38),.mv (.t 2),none⟩,
  ⟨(some 39),.mv (.t 4),none⟩,
  ⟨(some 40),.idxA 3 (.t 37) (.t 38),none⟩,
  ⟨(some 41),.fieldA 1 (.t 40),none⟩,
  ⟨none,.store 1 (.t 41) (.t 39),none⟩])))))
 (.region [0,2] [⟨(some 13),.mv (.t 2),none⟩,
  ⟨(some 14),.bin .add (.t 13) (.c (.int .i64 1)),none⟩,
  ⟨(some 2),.mv (.t 14),none⟩])))
def zcx(sz:Nat)(by_:Nat)(zs:List Value)(f:Nat)(mk:Nat):zab:=⟨[.whole],
 (.seq (.region [0,2] [⟨(some 2),.mv (.c (.int .i64 0)),none⟩])
 (.block 0 (.loop [1000000,0,2] (zn4 sz by_ zs f mk))))⟩
def zn7(sz:Nat)(f:Nat)(isn:Nat):XCode:=
 (.seq (.seq (.region [0,3,4,5,34] [⟨(some 30),.mv (.t 5),none⟩,
  ⟨(some 31),.fieldA 1 (.t 4),none⟩,
  ⟨(some 32),.load none (.t 31),none⟩,
  ⟨(some 33),.len (.t 32),none⟩,
  ⟨(some 34),.bin .lss (.t 30) (.t 33),none⟩])
 (.cond (.t 34)
  .skip
  (.exit 2)))
 (.seq (.block 3 (.seq (.region [0,3,4,5,63] [⟨(some 37),.fieldA 1 (.t 4),none⟩,
  ⟨(some 38),.load none (.t 37),none⟩,
  ⟨(some 39),.mv (.t 5),none⟩,
  ⟨(some 40),.idxA sz (.t 38) (.t 39),none⟩,
  ⟨(some 41),.load (some sz) (.t 40),none⟩,
  ⟨(some 42),.fieldA 2 (.t 4),none⟩,
  ⟨(some 43),.load none (.t 42),none⟩,
  ⟨(some 44),.call .view isn [(.t 41),(.t 43)],none⟩,
  ⟨(some 45),.un .not (.t 44),none⟩,
  ⟨(some 46),.mv (.t 45),none⟩,
  ⟨(some 47),.mv (.t 5),some (46,false)⟩,
  ⟨(some 48),.fieldA 0 (.t 4),some (46,false)⟩,
  ⟨(some 49),.load none (.t 48),some (46,false)⟩,
  ⟨(some 50),.len (.t 49),some (46,false)⟩,
  ⟨(some 51),.bin .lss (.t 47) (.t 50),some (46,false)⟩,
  ⟨(some 52),.mv (.t 51),some (46,false)⟩,
  ⟨(some 53),.fieldA 0 (.t 4),some (52,true)⟩,
  ⟨(some 54),.load none (.t 53),some (52,true)⟩,
  ⟨(some 55),.mv (.t 5),some (52,true)⟩,
  ⟨(some 56),.idxA sz (.t 54) (.t 55),some (52,true)⟩,
  ⟨(some 57),.load (some sz) (.t 56),some (52,true)⟩,
  ⟨(some 58),.fieldA 2 (.t 4),some (52,true)⟩,
  ⟨(some 59),.load none (.t 58),some (52,true)⟩,
  ⟨(some 60),.call .view isn [(.t 57),(.t 59)],some (52,true)⟩,
  ⟨(some 61),.un .not (.t 60),some (52,true)⟩,
  ⟨(some 62),.pick (.t 52) (.t 61) (.c (.bool false)),some (46,false)⟩,
  ⟨(some 63),.pick (.t 46) (.c (.bool true)) (.t 62),none⟩])
 (.cond (.t 63)
  (.seq (.region [2] [⟨(some 2),.mv (.c (.bool false)),none⟩])
  .ret)
  .skip)))
 (.region [0,3,4,5] [⟨(some 35),.mv (.t 5),none⟩,
  ⟨(some 36),.bin .add (.t 35) (.c (.int .i64 1)),none⟩,
  ⟨(some 5),.mv (.t 36),none⟩])))
def zn8(sz:Nat)(f:Nat)(isn:Nat):XCode:=
 (.seq (.seq (.region [0,3,12] [⟨(some 6),.mv (.t 3),none⟩,
  ⟨(some 7),.mv (.t 0),none⟩,
  ⟨(some 8),.nilCheck (.t 7),none⟩,
  ⟨(some 9),.fieldA f (.t 8),none⟩,
  ⟨(some 10),.load none (.t 9),none⟩,
  ⟨(some 11),.len (.t 10),none⟩,
  ⟨(some 12),.bin .lss (.t 6) (.t 11),none⟩])
 (.cond (.t 12)
  .skip
  (.exit 0)))
 (.seq (.block 1 (.seq (.region [0,3,4] [⟨(some 15),.mv (.t 0),none⟩,
  ⟨(some 16),.nilCheck (.t 15),none⟩,
  ⟨(some 17),.fieldA f (.t 16),none⟩,
  ⟨(some 18),.load none (.t 17),none⟩,
  ⟨(some 19),.mv (.t 3),none⟩,
  ⟨(some 20),.idxA 3 (.t 18) (.t 19),none⟩,
  ⟨(some 21),.load (some 3) (.t 20),none⟩,
  ⟨(some 4),.alloc [(.slice none 0 0),(.slice none 0 0),(.int .i64 0)],none⟩,
  ⟨none,.store 3 (.t 4) (.t 21),none⟩])
 (.seq (.seq (.region [0,3,4,29] [⟨(some 22),.fieldA 1 (.t 4),none⟩,
  ⟨(some 23),.load none (.t 22),none⟩,
  ⟨(some 24),.len (.t 23),none⟩,
  ⟨(some 25),.fieldA 0 (.t 4),none⟩,
  ⟨(some 26),.load none (.t 25),none⟩,
  ⟨(some 27),.len (.t 26),none⟩,
  ⟨(some 28),.bin .add (.t 27) (.c (.int .i64 40)),none⟩,
  ⟨(some 29),.bin .neq (.t 24) (.t 28),none⟩])
 (.cond (.t 29)
  (.seq (.region [2] [⟨(some 2),.mv (.c (.bool false)),none⟩])
  .ret)
  .skip))
 (.seq (.region [0,3,4,5] [⟨(some 5),.mv (.c (.int .i64 0)),none⟩])
 (.block 2 (.loop [1000000,0,3,4,5] (zn7 sz f isn)))))))
 (.region [0,3] [⟨(some 13),.mv (.t 3),none⟩,
  ⟨(some 14),.bin .add (.t 13) (.c (.int .i64 1)),none⟩,
  ⟨(some 3),.mv (.t 14),none⟩])))
def zde(sz:Nat)(f:Nat)(isn:Nat):zab:=⟨[.whole,.tmp 2],
 (.seq (.region [0] [⟨(some 2),.mv (.c (.bool false)),none⟩])
 (.seq (.seq (.region [0,3] [⟨(some 3),.mv (.c (.int .i64 0)),none⟩])
 (.block 0 (.loop [1000000,0,3] (zn8 sz f isn))))
 (.seq (.region [2] [⟨(some 2),.mv (.c (.bool true)),none⟩])
 .ret)))⟩
def zm6:zab:=
 ⟨[.whole,.tmp 4],(.seq (.region [0,1] [o0 4 (.mv (.c (.bool false)))]) (.seq (.region [0,1,5] [o0 5 (.alloc [(.int .i64 0),(.slice none 0 0),(.slice none 0 0),(.slice none 0 0),(.slice none 0 0),(.slice none 0 0),(.slice none 0 0),(.slice none 0 0),(.slice none 0 0),(.slice none 0 0),(.slice none 0 0),(.slice none 0 0),(.slice none 0 0),(.slice none 0 0),(.slice none 0 0),(.slice none 0 0),(.slice none 0 0),(.slice none 0 0),(.slice none 0 0),(.slice none 0 0),(.slice none 0 0)])]) (.seq (.region [1,5] [o3 6 0,
 o0 7 (.call .whole 12 [(.t 5),(.t 6)])]) (.seq (.region [5] [o3 8 1,
 o0 9 (.call .whole 12 [(.t 5),(.t 8)])]) (.seq (.region [4] [o0 10 (.call .whole 1 [.t 5]),o3 4 10]) .ret)))))⟩
def zo9:zab:=
 ⟨[.whole],(.region [] [o3 4 0,o3 5 1,
 o0 6 (.call .whole 10 [(.t 4),(.t 5)])])⟩
def zrz:XCode:=
 (.seq (.seq (.region [0,1,4,8] [o3 5 4,o3 6 1,o8 7 6,
 o0 8 (.bin .lss (.t 5) (.t 7))]) (.cond (.t 8) .skip (.exit 0))) (.seq (.block 1 (.region [0,1,4] [o3 11 0,o3 12 1,o3 13 4,
 o0 14 (.idxA 5 (.t 12) (.t 13)),o6 15 5 14,
 o0 16 (.call .whole 9 [(.t 11),(.t 15)])])) (.region [0,1,4] [o3 9 4,
 o0 10 (.bin .add (.t 9) (.c (.int .i64 1))),o3 4 10])))
def zo8:zab:=
 ⟨[.whole],(.seq (.seq (.region [0,1,4] [o0 4 (.mv (.c (.int .i64 0)))]) (.block 0 (.loop [1000000,0,1,4] zrz))) (.region [] [o3 17 0,o3 18 1,
 o0 19 (.call .whole 62 [(.t 17),(.t 18)])]))⟩
def x9W:zab:=
 ⟨[.whole],(.seq (.region [0,3] [o0 3 (.box 5 (.t 1))]) (.region [] [o3 4 0,o5 5 2 3,o4 6 5,
 o0 7 (.call .whole 14 [(.t 4),(.t 6)])]))⟩
def zjy:zab:=
 ⟨[.whole],(.region [] [o3 4 0,o3 5 1,
 o0 6 (.call .whole 64 [(.t 4),(.t 5)])])⟩
@[simp] def z2x(n0:Nat):zab:=
 ⟨[.whole],(.seq (.region [0,1] [o3 4 0,o7 5 4,o5 6 0 5,o4 7 6,o0 8 (.bin .add (.t 7) (.c (.int .i64 1))),o7 9 4,o5 10 0 9,o2 (.store 1 (.t 10) (.t 8))]) (.region [] [o3 11 0,o3 12 0,o7 13 12,o5 14 n0 13,o4 15 14,o3 16 1,o3 17 0,o7 18 17,o5 19 0 18,o4 20 19,o0 21 (.build [(.slice none 0 0),(.slice none 0 0),(.int .i64 0)] [(0,1,(.t 16)),(2,1,(.t 20))]),o0 22 (.buildSlice 3 [(.slice none 0 0),(.slice none 0 0),(.int .i64 0)] 1 [(0,3,(.t 21))]),o0 23 (.append 3 56 (.t 15) (.t 22)),o7 24 11,o5 25 n0 24,o2 (.store 1 (.t 25) (.t 23))]))⟩
def zi3:zab:=
 z2x 4
def zla:zab:=
 z2x 5
def x1W:zab:=
 ⟨[.whole,.tmp 2],(.seq (.region [0] [o0 2 (.mv (.c (.bool false)))]) (.seq (.region [0] [o3 3 0,
 o0 4 (.call .whole 25 [.t 3])]) (.seq (.region [0] [o3 5 0,
 o0 6 (.call .whole 29 [.t 5])]) (.seq (.region [0] [o3 7 0,
 o0 8 (.call .whole 33 [.t 7])]) (.seq (.region [0] [o3 9 0,
 o0 10 (.call .whole 34 [.t 9])]) (.seq (.region [0] [o3 11 0,
 o0 12 (.call .whole 28 [.t 11])]) (.seq (.region [0] [o3 13 0,
 o0 14 (.call .whole 24 [.t 13])]) (.seq (.region [0] [o3 15 0,
 o0 16 (.call .whole 18 [.t 15])]) (.seq (.region [0] [o3 17 0,
 o0 18 (.call .whole 17 [.t 17])]) (.seq (.region [0] [o3 19 0,
 o0 20 (.call .whole 23 [.t 19])]) (.seq (.region [0] [o3 21 0,
 o0 22 (.call .whole 22 [.t 21])]) (.seq (.region [0] [o3 23 0,
 o0 24 (.call .whole 21 [.t 23])]) (.seq (.region [0] [o3 25 0,
 o0 26 (.call .whole 32 [.t 25])]) (.seq (.region [0] [o3 27 0,
 o0 28 (.call .whole 35 [.t 27])]) (.seq (.region [0] [o3 29 0,
 o0 30 (.call .whole 30 [.t 29])]) (.seq (.region [0] [o3 31 0,
 o0 32 (.call .whole 26 [.t 31])]) (.seq (.region [0] [o3 33 0,
 o0 34 (.call .whole 20 [.t 33])]) (.seq (.region [0] [o3 35 0,
 o0 36 (.call .whole 19 [.t 35])]) (.seq (.region [0] [o3 37 0,
 o0 38 (.call .whole 27 [.t 37])]) (.seq (.region [0] [o3 39 0,
 o0 40 (.call .whole 16 [.t 39])]) (.seq (.region [0] [o3 41 0,
 o0 42 (.call .whole 31 [.t 41])]) (.seq (.region [0] [o3 43 0,
 o0 44 (.call .whole 45 [.t 43])]) (.seq (.region [0] [o3 45 0,
 o0 46 (.call .whole 49 [.t 45])]) (.seq (.region [0] [o3 47 0,
 o0 48 (.call .whole 53 [.t 47])]) (.seq (.region [0] [o3 49 0,
 o0 50 (.call .whole 54 [.t 49])]) (.seq (.region [0] [o3 51 0,
 o0 52 (.call .whole 48 [.t 51])]) (.seq (.region [0] [o3 53 0,
 o0 54 (.call .whole 44 [.t 53])]) (.seq (.region [0] [o3 55 0,
 o0 56 (.call .whole 38 [.t 55])]) (.seq (.region [0] [o3 57 0,
 o0 58 (.call .whole 37 [.t 57])]) (.seq (.region [0] [o3 59 0,
 o0 60 (.call .whole 43 [.t 59])]) (.seq (.region [0] [o3 61 0,
 o0 62 (.call .whole 42 [.t 61])]) (.seq (.region [0] [o3 63 0,
 o0 64 (.call .whole 41 [.t 63])]) (.seq (.region [0] [o3 65 0,
 o0 66 (.call .whole 52 [.t 65])]) (.seq (.region [0] [o3 67 0,
 o0 68 (.call .whole 55 [.t 67])]) (.seq (.region [0] [o3 69 0,
 o0 70 (.call .whole 50 [.t 69])]) (.seq (.region [0] [o3 71 0,
 o0 72 (.call .whole 46 [.t 71])]) (.seq (.region [0] [o3 73 0,
 o0 74 (.call .whole 40 [.t 73])]) (.seq (.region [0] [o3 75 0,
 o0 76 (.call .whole 39 [.t 75])]) (.seq (.region [0] [o3 77 0,
 o0 78 (.call .whole 47 [.t 77])]) (.seq (.region [0] [o3 79 0,
 o0 80 (.call .whole 36 [.t 79])]) (.seq (.region [0] [o3 81 0,
 o0 82 (.call .whole 51 [.t 81])]) (.seq (.region [2] [o3 83 0,
 o0 84 (.call .whole 75 [.t 83]),o3 85 84,
 o1 86 85 true (.mv (.t 0)),
 o1 87 85 true (.call .whole 79 [.t 86]),
 o0 88 (.pick (.t 85) (.t 87) (.c (.bool false))),o3 89 88,
 o1 90 89 true (.mv (.t 0)),
 o1 91 89 true (.call .whole 83 [.t 90]),
 o0 92 (.pick (.t 89) (.t 91) (.c (.bool false))),o3 93 92,
 o1 94 93 true (.mv (.t 0)),
 o1 95 93 true (.call .whole 84 [.t 94]),
 o0 96 (.pick (.t 93) (.t 95) (.c (.bool false))),o3 97 96,
 o1 98 97 true (.mv (.t 0)),
 o1 99 97 true (.call .whole 78 [.t 98]),
 o0 100 (.pick (.t 97) (.t 99) (.c (.bool false))),o3 101 100,
 o1 102 101 true (.mv (.t 0)),
 o1 103 101 true (.call .whole 74 [.t 102]),
 o0 104 (.pick (.t 101) (.t 103) (.c (.bool false))),o3 105 104,
 o1 106 105 true (.mv (.t 0)),
 o1 107 105 true (.call .whole 68 [.t 106]),
 o0 108 (.pick (.t 105) (.t 107) (.c (.bool false))),o3 109 108,
 o1 110 109 true (.mv (.t 0)),
 o1 111 109 true (.call .whole 67 [.t 110]),
 o0 112 (.pick (.t 109) (.t 111) (.c (.bool false))),o3 113 112,
 o1 114 113 true (.mv (.t 0)),
 o1 115 113 true (.call .whole 73 [.t 114]),
 o0 116 (.pick (.t 113) (.t 115) (.c (.bool false))),o3 117 116,
 o1 118 117 true (.mv (.t 0)),
 o1 119 117 true (.call .whole 72 [.t 118]),
 o0 120 (.pick (.t 117) (.t 119) (.c (.bool false))),o3 121 120,
 o1 122 121 true (.mv (.t 0)),
 o1 123 121 true (.call .whole 71 [.t 122]),
 o0 124 (.pick (.t 121) (.t 123) (.c (.bool false))),o3 125 124,
 o1 126 125 true (.mv (.t 0)),
 o1 127 125 true (.call .whole 82 [.t 126]),
 o0 128 (.pick (.t 125) (.t 127) (.c (.bool false))),o3 129 128,
 o1 130 129 true (.mv (.t 0)),
 o1 131 129 true (.call .whole 85 [.t 130]),
 o0 132 (.pick (.t 129) (.t 131) (.c (.bool false))),o3 133 132,
 o1 134 133 true (.mv (.t 0)),
 o1 135 133 true (.call .whole 80 [.t 134]),
 o0 136 (.pick (.t 133) (.t 135) (.c (.bool false))),o3 137 136,
 o1 138 137 true (.mv (.t 0)),
 o1 139 137 true (.call .whole 76 [.t 138]),
 o0 140 (.pick (.t 137) (.t 139) (.c (.bool false))),o3 141 140,
 o1 142 141 true (.mv (.t 0)),
 o1 143 141 true (.call .whole 70 [.t 142]),
 o0 144 (.pick (.t 141) (.t 143) (.c (.bool false))),o3 145 144,
 o1 146 145 true (.mv (.t 0)),
 o1 147 145 true (.call .whole 69 [.t 146]),
 o0 148 (.pick (.t 145) (.t 147) (.c (.bool false))),o3 149 148,
 o1 150 149 true (.mv (.t 0)),
 o1 151 149 true (.call .whole 77 [.t 150]),
 o0 152 (.pick (.t 149) (.t 151) (.c (.bool false))),o3 153 152,
 o1 154 153 true (.mv (.t 0)),
 o1 155 153 true (.call .whole 66 [.t 154]),
 o0 156 (.pick (.t 153) (.t 155) (.c (.bool false))),o3 157 156,
 o1 158 157 true (.mv (.t 0)),
 o1 159 157 true (.call .whole 81 [.t 158]),
 o0 160 (.pick (.t 157) (.t 159) (.c (.bool false))),o3 2 160]) .ret))))))))))))))))))))))))))))))))))))))))))⟩
def zsa:zab:=
 zcw 1 1 411
def zse:zab:=
 zcw 1 2 415
def zsk:zab:=
 zcw 1 3 419
def zsl:zab:=
 zcw 2 4 420
def zsd:zab:=
 zcw 5 5 414
def zr9:zab:=
 zcw 2 6 410
def zr3:zab:=
 zcw 3 7 404
def zr2:zab:=
 zcw 2 8 403
def zr8:zab:=
 zcw 4 9 409
def zr7:zab:=
 zcw 8 10 408
def zr6:zab:=
 zcw 7 11 407
def zsh:zab:=
 zcw 6 12 418
def zsm:zab:=
 zcw 4 13 421
def zsf:zab:=
 zcw 6 14 416
def zsb:zab:=
 zcw 3 15 412
def zr5:zab:=
 zcw 2 16 406
def zr4:zab:=
 zcw 3 17 405
def zsc:zab:=
 zcw 5 18 413
def zr1:zab:=
 zcw 6 19 402
def zsg:zab:=
 zcw 2 20 417
def zs3:zab:=
 zcx 1 8 [(.int .i64 0)] 1 411
def zs8:zab:=
 zcx 1 8 [(.int .i64 0)] 2 415
def ztc:zab:=
 zcx 1 16 [(.string .empty)] 3 419
def ztd:zab:=
 zcx 2 16 [(.int .u8 0),(.int .i64 0)] 4 420
def zs7:zab:=
 zcx 5 64 [(.int .u8 0),(.string .empty),(.slice none 0 0),(.int .i64 0),(.int .i64 0)] 5 414
def zs2:zab:=
 zcx 2 16 [(.int .u8 0),(.int .i64 0)] 6 410
def zsr:zab:=
 zcx 3 32 [(.int .u8 0),(.int .i64 0),(.string .empty)] 7 404
def zsq:zab:=
 zcx 2 16 [(.bool false),(.int .i64 0)] 8 403
def zs1:zab:=
 zcx 4 32 [(.int .i64 0),(.int .i64 0),(.int .i64 0),(.int .i64 0)] 9 409
def zs0:zab:=
 zcx 8 152 [(.string .empty),(.int .i64 0),(.int .i64 0),(.slice none 0 0),(.slice none 0 0),(.slice none 0 0),(.slice none 0 0),(.slice none 0 0)] 10 408
def zsx:zab:=
 zcx 7 112 [(.int .u8 0),(.int .i64 0),(.string .empty),(.slice none 0 0),(.slice none 0 0),(.slice none 0 0),(.int .i64 0)] 11 407
def ztb:zab:=
 zcx 6 104 [(.int .u8 0),(.string .empty),(.slice none 0 0),(.slice none 0 0),(.slice none 0 0),(.int .i64 0)] 12 418
def zte:zab:=
 zcx 4 40 [(.int .u8 0),(.string .empty),(.int .i64 0),(.int .i64 0)] 13 421
def zs9:zab:=
 zcx 6 64 [(.int .u8 0),(.int .i64 0),(.slice none 0 0),(.int .i64 0),(.int .u8 0),(.int .i64 0)] 14 416
def zs4:zab:=
 zcx 3 24 [(.int .i64 0),(.int .u8 0),(.int .i64 0)] 15 412
def zsv:zab:=
 zcx 2 32 [(.int .i64 0),(.slice none 0 0)] 16 406
def zst:zab:=
 zcx 3 40 [(.int .i64 0),(.int .i64 0),(.slice none 0 0)] 17 405
def zs5:zab:=
 zcx 5 56 [(.int .u8 0),(.slice none 0 0),(.int .i64 0),(.int .u8 0),(.int .i64 0)] 18 413
def zsn:zab:=
 zcx 6 112 [(.slice none 0 0),(.int .u8 0),(.slice none 0 0),(.slice none 0 0),(.slice none 0 0),(.int .i64 0)] 19 402
def zta:zab:=
 zcx 2 32 [(.int .i64 0),(.slice none 0 0)] 20 417
@[simp] def zwj(n0:Nat):XCode:=
 (.seq (.seq (.region [0,3,4,5,34] [o3 30 5,o5 31 1 4,o4 32 31,o8 33 32,o0 34 (.bin .lss (.t 30) (.t 33))]) (.cond (.t 34) .skip (.exit 2))) (.seq (.block 3 (.seq (.region [0,3,4,5,63] [o5 37 1 4,o4 38 37,o3 39 5,o0 40 (.idxA 1 (.t 38) (.t 39)),o4 41 40,o5 42 2 4,o4 43 42,o0 44 (.call .view n0 [(.t 41),(.t 43)]),o0 45 (.un .not (.t 44)),o3 46 45,o1 47 46 false (.mv (.t 5)),o1 48 46 false (.fieldA 0 (.t 4)),o1 49 46 false (.load none (.t 48)),o1 50 46 false (.len (.t 49)),o1 51 46 false (.bin .lss (.t 47) (.t 50)),o1 52 46 false (.mv (.t 51)),o1 53 52 true (.fieldA 0 (.t 4)),o1 54 52 true (.load none (.t 53)),o1 55 52 true (.mv (.t 5)),o1 56 52 true (.idxA 1 (.t 54) (.t 55)),o1 57 52 true (.load none (.t 56)),o1 58 52 true (.fieldA 2 (.t 4)),o1 59 52 true (.load none (.t 58)),o1 60 52 true (.call .view n0 [(.t 57),(.t 59)]),o1 61 52 true (.un .not (.t 60)),o1 62 46 false (.pick (.t 52) (.t 61) (.c (.bool false))),o0 63 (.pick (.t 46) (.c (.bool true)) (.t 62))]) (.cond (.t 63) (.seq (.region [2] [o0 2 (.mv (.c (.bool false)))]) .ret) .skip))) (.region [0,3,4,5] [o3 35 5,o0 36 (.bin .add (.t 35) (.c (.int .i64 1))),o3 5 36])))
def yii:XCode:=
 zwj 391
@[simp] def zwk(n0:Nat)(c1:XCode):XCode:=
 (.seq (.seq (.region [0,3,12] [o3 6 3,o3 7 0,o7 8 7,o5 9 n0 8,o4 10 9,o8 11 10,o0 12 (.bin .lss (.t 6) (.t 11))]) (.cond (.t 12) .skip (.exit 0))) (.seq (.block 1 (.seq (.region [0,3,4] [o3 15 0,o7 16 15,o5 17 n0 16,o4 18 17,o3 19 3,o0 20 (.idxA 3 (.t 18) (.t 19)),o6 21 3 20,o0 4 (.alloc [(.slice none 0 0),(.slice none 0 0),(.int .i64 0)]),o2 (.store 3 (.t 4) (.t 21))]) (.seq (.seq (.region [0,3,4,29] [o5 22 1 4,o4 23 22,o8 24 23,o5 25 0 4,o4 26 25,o8 27 26,o0 28 (.bin .add (.t 27) (.c (.int .i64 40))),o0 29 (.bin .neq (.t 24) (.t 28))]) (.cond (.t 29) (.seq (.region [2] [o0 2 (.mv (.c (.bool false)))]) .ret) .skip)) (.seq (.region [0,3,4,5] [o0 5 (.mv (.c (.int .i64 0)))]) (.block 2 (.loop [1000000,0,3,4,5] c1)))))) (.region [0,3] [o3 13 3,o0 14 (.bin .add (.t 13) (.c (.int .i64 1))),o3 3 14])))
def z4i:XCode:=
 zwk 1 yii
@[simp] def zwl(c0:XCode):zab:=
 ⟨[.whole,.tmp 2],(.seq (.region [0] [o0 2 (.mv (.c (.bool false)))]) (.seq (.seq (.region [0,3] [o0 3 (.mv (.c (.int .i64 0)))]) (.block 0 (.loop [1000000,0,3] c0))) (.seq (.region [2] [o0 2 (.mv (.c (.bool true)))]) .ret)))⟩
def zpu:zab:=
 zwl z4i
def yik:XCode:=
 zwj 395
def z4j:XCode:=
 zwk 2 yik
def zpv:zab:=
 zwl z4j
def yil:XCode:=
 zwj 399
def z4k:XCode:=
 zwk 3 yil
def zpw:zab:=
 zwl z4k
def ztx:zab:=
 zde 2 4 400
def ztt:zab:=
 zde 5 5 394
def ztp:zab:=
 zde 2 6 390
def zti:zab:=
 zde 3 7 384
def zth:zab:=
 zde 2 8 383
def zto:zab:=
 zde 4 9 389
def ztn:zab:=
 zde 8 10 388
def ztm:zab:=
 zde 7 11 387
def ztw:zab:=
 zde 6 12 398
def zty:zab:=
 zde 4 13 401
def ztu:zab:=
 zde 6 14 396
def ztq:zab:=
 zde 3 15 392
def ztl:zab:=
 zde 2 16 386
def ztj:zab:=
 zde 3 17 385
def ztr:zab:=
 zde 5 18 393
def ztg:zab:=
 zde 6 19 382
def ztv:zab:=
 zde 2 20 397
set_option linter.unusedVariables false
set_option linter.unusedSimpArgs false
attribute [simp] List.range_succ zu7 z65 z63 z64 z61 z62 z66 z60 zuc andThen zbl za7 zah Env.ev Env.get Env.keep enter AV.cells fresh loadAt zd4 zf8 zmy zlt zqm zmu zrn zo7 zdg zih bounds
 storeAt zdu ziq XRes.outs XRes.asIs zvf zel zhf zib order reach Mem.refs AObj.refs AV.refs AV.refs.refsL Mem.pickAll AObj.ren AV.ren AV.ren.renL place zcm zbn imZ zc0 St.tidy Env.roots Env.ren AV.plain1 AV.plain2 AV.plain AV.own1 AV.own2 AV.own IV.plain AObj.own AObj.live AV.isImm zhr zb0 zcj zcf zgd AObj.isFix zcv zax frz frz.frz1 za5 AObj.moved AObj.orMoved zdx St.scrub zg8 zie
@[simp] theorem ykg:lenOf (.imm (.val (.slice none 0 0)))=some 0:=rfl
@[simp] theorem yki(row:List IV)(off len:Nat)(cap:Option Nat):lenOf (.imm (.slice row off len cap))=some len:=rfl
@[simp] theorem ykh(id off sz len:Nat)(cap:Option Nat):lenOf (.osl id off sz len cap)=some len:=rfl
@[simp] theorem yjr(row:List IV)(off len:Nat)(cap:Option Nat):znu (.imm (.slice row off len cap))=cap:=rfl
@[simp] theorem yjq(id off sz len:Nat)(cap:Option Nat):znu (.osl id off sz len cap)=cap:=rfl
@[simp] theorem yke(row:List IV)(off len:Nat)(cap:Option Nat):ze2 (.imm (.slice row off len cap))=some false:=rfl
@[simp] theorem ykd(row:List IV)(off:Nat):ze2 (.imm (.ptr row off))=some false:=rfl
@[simp] theorem ykb(id off sz len:Nat)(cap:Option Nat):ze2 (.osl id off sz len cap)=some false:=rfl
@[simp] theorem yka(id off:Nat):ze2 (.optr id off)=some false:=rfl
@[simp] theorem yj9(id:Nat):ze2 (.omap id)=some false:=rfl
@[simp] theorem ykc:ze2 (.imm (.val (.pointer none)))=some true:=rfl
@[simp] theorem yj6:zgr 0 (.imm (.val (.slice none 0 0)))=some true:=rfl
@[simp] theorem yj5(row:List IV)(off len:Nat)(cap:Option Nat):zgr 0 (.imm (.slice row off len cap))=some false:=rfl
@[simp] theorem yj2(id off sz len:Nat)(cap:Option Nat):zgr 0 (.osl id off sz len cap)=some false:=rfl
@[simp] theorem yj3:zgr 1 (.imm (.val (.pointer none)))=some true:=rfl
@[simp] theorem yj4(row:List IV)(off:Nat):zgr 1 (.imm (.ptr row off))=some false:=rfl
@[simp] theorem yj1(id off:Nat):zgr 1 (.optr id off)=some false:=rfl
@[simp] theorem yj0(a b:Int):(a==b)=decide (a=b):=by by_cases h:a=b<;>simp[h]
theorem z6c{a b:ByteArray}(h:a.toList=b.toList):a=b:=by
 have e:∀c:ByteArray,c.toList=c.data.toList:=ByteArray.toList_eq
 rw[e,e]at h
 cases a;cases b
 simp at h
 exact congrArg ByteArray.mk h
@[simp] theorem bytes_beq(a b:ByteArray):(a.toList==b.toList)=decide (a=b):=by
 by_cases h:a=b
 ·subst h;simp
 ·have:a.toList≠b.toList:=fun e=>h (z6c e)
  simp[h,this]
@[simp] theorem yjz{β:Type}(l:List β):cut l 0 0=some []:=by simp[cut]
@[simp] theorem yjy{β:Type}(x:β)(l:List β)(n:Nat):cut (x::l) 0 (n+1)=(cut l 0 n).map (x:: ·):=by
 simp only[cut,List.drop_zero,List.take_succ_cons,xat]
 by_cases h:(l.take n).length=n
 ·rw[if_pos h,if_pos (by omega)];rfl
 ·rw[if_neg h,if_neg (by omega)];rfl
@[simp] theorem yjx{β:Type}(x:β)(l:List β)(o n:Nat):cut (x::l) (o+1) n=cut l o n:=by simp[cut]
@[simp] theorem yle{β:Type}(l:List β)(o:Nat):setAll l o []=l:=rfl
@[simp] theorem z25{β:Type}(x:β):∀(ys l:List β) (o:Nat),setAll (x::l) (o+1) ys=x::setAll l o ys
 |[],l,o=>rfl
 |y::ys,l,o=>by rw[setAll,xce,z25 x ys];rfl
@[simp] theorem ylc{β:Type}(x y:β)(l ys:List β):setAll (x::l) 0 (y::ys)=y::setAll l 0 ys:=by
 rw[setAll,List.set_cons_zero,z25]
@[simp] theorem z0q:∀(l:List IV),zdu (l.map .imm)=some l
 |[]=>rfl
 |x::l=>by simp[zdu,z0q l]
@[simp] theorem yjs{β:Type}(l:List β):zar 0 l=[]:=rfl
@[simp] theorem yjt{β:Type}(l:List β):zar 1 l=l:=by simp[zar]
@[simp] theorem yju{β:Type}(l:List β):zar 2 l=l++l:=by simp[zar]
@[simp] theorem yjv{β:Type}(l:List β):zar 3 l=l++(l++l):=by simp[zar]
@[simp] theorem yjw{β:Type}(l:List β):zar 4 l=l++(l++(l++l)):=by simp[zar]
def Ty.row{α:Type}(t:Ty α)(xs:List α):List IV:=xs.flatMap t.enc
abbrev zaf:AV:=.imm (.val (.slice none 0 0))
abbrev zaa(n:Int):AV:=.imm (.val (.int .i64 n))
abbrev avb(b:Bool):AV:=.imm (.val (.bool b))
theorem zb1{code:Nat->Option zab}{ext:zac}{keep:List Nat}{b:XCode}(I:Nat->St->Prop)(Q:XExit->St->Prop)
  (h:∀n s,I n s->∃e s',den code ext b (s.tidy keep)=some (e,s')/\((e=.normal/\∃m,m<n/\I m s')\/(e≠ .normal/\Q e s'))):∀n s,I n s->∃e s',den code ext (.loop keep b) s=some (e,s')/\e≠ .normal/\Q e s':=by
 intro n
 induction n using Nat.strongRecOn with
 |ind n ih=>
  intro s hs
  obtain⟨e,s',h1,h2⟩:=h n s hs
  rw[zfc,h1]
  rcases h2 with⟨rfl,m,hm,hI⟩|⟨hne,hq⟩
  ·exact ih m hm s' hI
  ·refine⟨e,s',?_,hne,hq⟩
   cases e with
   |normal=>exact absurd rfl hne
   |exit id=>rfl
   |ret=>rfl
theorem zap{x:Int}(h1: -9223372036854775808<=x)(h2:x<=9223372036854775807):IntKind.wrap .i64 x=x:=by
 simp only[IntKind.wrap,IntKind.signed,IntKind.bits]
 simp
 omega
theorem wfI64{n:Int}:(zct .i64).wf n↔ -9223372036854775808<=n/\n<=9223372036854775807:=by
 simp[zct,Lit.wf,IntKind.min,IntKind.max,IntKind.signed,IntKind.bits]
theorem wfU8{n:Int}:(zct .u8).wf n↔0<=n/\n<=255:=by
 simp[zct,Lit.wf,IntKind.min,IntKind.max,IntKind.signed,IntKind.bits]
section
variable {α:Type} {t:Ty α} {iv:IV} {xs:List α}
theorem zaz(h:zao t iv xs):lenOf (.imm iv)=some xs.length:=by
 obtain⟨_,_,⟨rfl,rfl⟩|⟨row,off,cap,rfl,_⟩⟩:=h
 ·rfl
 ·rfl
theorem zy2{β:Type}{l:List β}{o n:Nat}{r:List β}(h:cut l o n=some r):r=(l.drop o).take n/\r.length=n:=by
 unfold cut at h
 dsimp only at h
 split at h
 ·rename_i h1;cases h;exact⟨rfl,h1⟩
 ·cases h
theorem zun{β:Type}{l:List β}{o n:Nat}{r:List β}(h:(l.drop o).take n=r)(hl:r.length=n):cut l o n=some r:=by
 unfold cut
 dsimp only
 rw[h,if_pos hl]
theorem znx{β:Type}{l:List β}{o n:Nat}{r:List β}(h:cut l o n=some r){a b:Nat}(hab:a+b<=n):cut l (o+a) b=cut r a b:=by
 obtain⟨rfl,hl⟩:=zy2 h
 unfold cut
 dsimp only
 rw[List.drop_take,List.drop_drop,List.take_take]
 have:min b (n-a)=b:=by omega
 rw[this]
theorem zzy(h0:∀x,(t.enc x).length=t.sz):∀(xs:List α) (i k:Nat),i+k<=xs.length->cut (xs.flatMap t.enc) (i*t.sz) (k*t.sz)=some (((xs.drop i).take k).flatMap t.enc):=by
 intro xs i k hk
 refine zun ?_ ?_
 ·have hdrop:∀(i:Nat) (l:List α),(l.flatMap t.enc).drop (i*t.sz)=(l.drop i).flatMap t.enc:=by
   intro i
   induction i with
   |zero=>intro l;simp
   |succ i ih=>
    intro l
    cases l with
    |nil=>simp
    |cons x l=>
     rw[xcp,Nat.add_mul,xc4,Nat.add_comm,List.drop_append]
     have hx:=h0 x
     rw[xco (by omega)]
     have:t.sz+i*t.sz-(t.enc x).length=i*t.sz:=by omega
     rw[this,ih];simp
  have htake:∀(k:Nat) (l:List α),(l.flatMap t.enc).take (k*t.sz)=(l.take k).flatMap t.enc:=by
   intro k
   induction k with
   |zero=>intro l;simp
   |succ i ih=>
    intro l
    cases l with
    |nil=>simp
    |cons x l=>
     rw[xcp,Nat.add_mul,xc4,Nat.add_comm,List.take_append]
     have hx:=h0 x
     rw[List.take_of_length_le (by omega)]
     have:t.sz+i*t.sz-(t.enc x).length=i*t.sz:=by omega
     rw[this,ih];simp
  rw[hdrop,htake]
 ·rw[zn2 _ _ h0]
  simp only[xca,List.length_drop]
  congr 1
  omega
theorem zbg(t:Ty α)(xs:List α):(t.row xs).length=xs.length*t.sz:=zn2 _ _ t.len xs
theorem zg6(t:Ty α)(xs:List α):cut (t.row xs) 0 (xs.length*t.sz)=some (t.row xs):=zda _ (zbg t xs)
theorem z2j(t:Ty α)(xs ys:List α):t.row (xs++ys)=t.row xs++t.row ys:=by simp[Ty.row]
theorem zdc{i:Nat}{x:α}(hx:xs[i]?=some x):cut (t.row xs) (i*t.sz) t.sz=some (t.enc x):=by
 obtain⟨hi,hxi⟩:=xaa.1 hx
 have:=zzy t.len xs i 1 hi
 rw[xc4]at this
 rw[Ty.row,this,xb2 hi,hxi]
 simp
theorem zb6(h:zao t iv xs){i:Nat}{x:α}(hx:xs[i]?=some x):∃row off cap,iv=.slice row off xs.length cap/\(∀c,cap=some c->xs.length<=c)/\cut row off (xs.length*t.sz)=some (xs.flatMap t.enc)/\
  cut row (off+i*t.sz) t.sz=some (t.enc x):=by
 obtain⟨_,_,⟨rfl,rfl⟩|⟨row,off,cap,rfl,hc,hcut⟩⟩:=h
 ·simp at hx
 ·refine⟨row,off,cap,rfl,hc,hcut,?_⟩
  have hi:=(xaa.1 hx)
  obtain⟨hi,hxi⟩:=hi
  have:i*t.sz+t.sz<=xs.length*t.sz:=by
   rw[<-Nat.succ_mul];exact xb8 _ hi
  rw[znx hcut this]
  have:=zzy t.len xs i 1 hi
  rw[xc4]at this
  rw[this]
  congr 1
  rw[xb2 hi,hxi]
  simp
theorem zy1{β:Type}{l:List β}{o:Nat}{y:β}(h:cut l o 1=some [y]):l[o]?=some y:=by
 obtain⟨h1,_⟩:=zy2 h
 have:((l.drop o).take 1)[0]?=some y:=by rw[<-h1];rfl
 rw[xcd,if_pos (by omega),xbp]at this
 simpa using this
theorem zfj(t:Ty α)(xs:List α){cap:Option Nat}(hw:∀x∈xs,t.wf x)(hl:xs.length<=140737488355328)(hc:∀c,cap=some c->xs.length<=c):zao t (.slice (t.row xs) 0 xs.length cap) xs:=
 ⟨hw,hl,.inr ⟨_,0,cap,rfl,hc,zda _ (zbg t xs)⟩⟩
theorem zlx(m:Mem)(h:zao t iv xs):elems m t.sz (.imm iv)=some (xs.length,t.row xs):=by
 obtain⟨hw,hm,⟨rfl,rfl⟩|⟨row,off,cap,rfl,hc,hcut⟩⟩:=h
 ·rfl
 ·simp only[elems,hcut,xal,Ty.row]
theorem z26{β:Type}:∀(l ys:List β),l.length=ys.length->setAll l 0 ys=ys:=by
 intro l ys h
 refine xbh fun j=>?_
 rw[ziy]
 split
 ·simp
 ·rename_i hn
  have:ys.length<=j:=by omega
  rw[xaq (by omega),xaq this]
theorem zre{β:Type}:∀(ys l:List β) (o j:Nat),o+ys.length<=l.length->(setAll l o ys)[j]?=if o<=j/\j<o+ys.length then ys[j-o]? else l[j]?
 |[],l,o,j,h=>by simp[setAll];omega
 |y::ys,l,o,j,h=>by
  simp only[xat]at h ⊢
  rw[setAll,zre ys (l.set o y) (o+1) j (by rw[xaw];omega),List.getElem?_set]
  by_cases h1:o=j
  ·subst h1
   have e1:¬(o+1<=o/\o<o+1+ys.length):=by omega
   rw[if_neg e1,if_pos rfl,if_pos (by omega),if_pos (by omega)]
   simp
  ·by_cases h2:o+1<=j/\j<o+1+ys.length
   ·have e3:j-o=(j-(o+1))+1:=by omega
    rw[if_pos h2,if_pos (by omega),e3]
    simp
   ·rw[if_neg h2,if_neg h1,if_neg (by omega)]
theorem zwo(h0:0<t.sz){i:Nat}(hi:i<xs.length)(x:α):setAll (t.row xs) (i*t.sz) (t.enc x)=t.row (xs.set i x):=by
 unfold Ty.row
 have hle:i*t.sz+(t.enc x).length<=(xs.flatMap t.enc).length:=by
  rw[zn2 _ _ t.len,t.len,<-Nat.succ_mul]
  exact xb8 _ hi
 refine xbh fun j=>?_
 rw[zre _ _ _ _ hle,zqd _ _ h0 t.len,zqd _ _ h0 t.len,t.len,List.getElem?_set]
 by_cases h:i*t.sz<=j/\j<i*t.sz+t.sz
 ·have h1:j / t.sz=i:=by
   exact Nat.div_eq_of_lt_le h.1 (by rw[Nat.add_mul,xc4];exact h.2)
  have h2:j%t.sz=j-i*t.sz:=by
   have:=Nat.div_add_mod j t.sz
   rw[h1,Nat.mul_comm]at this
   omega
  rw[if_pos h,h1,h2,if_pos rfl,if_pos hi];rfl
 ·have h1:¬(i=j / t.sz):=by
   intro e
   have h2:=Nat.div_add_mod j t.sz
   have h3:=Nat.mod_lt j h0
   rw[<-e,Nat.mul_comm]at h2
   omega
  rw[if_neg h,if_neg h1]
theorem zul(n:Nat)(x:α):zar n (t.enc x)=t.row (List.replicate n x):=by
 unfold Ty.row
 induction n with
 |zero=>rfl
 |succ n ih=>simp[zar,List.replicate_succ,ih]
end
end Go.EX


namespace Go.EX
structure Val where
 k:Int
 n:Int
 deriving DecidableEq
def tVal:Ty Val:=⟨2,true,fun v=>[.val (.int .u8 v.k),.val (.int .i64 v.n)],fun v=>(zct .u8).wf v.k/\(zct .i64).wf v.n,fun _=>rfl⟩
abbrev zt1:Val:=⟨0,0⟩
structure Obj where
 k:Int
 s:ByteArray
 l:Sl tVal
 room:Int
 fn:Int
def tObj:Ty Obj:=⟨5,true,fun o=>[.val (.int .u8 o.k),.val (.string o.s),o.l.iv,.val (.int .i64 o.room),.val (.int .i64 o.fn)],
 fun o=>(zct .u8).wf o.k/\tStr.wf o.s/\(zct .i64).wf o.room/\(zct .i64).wf o.fn,fun _=>rfl⟩
section
variable {code:Nat->Option zab} {ext:zac} {M:Mem} {b:Nat} {B:List AV}
theorem zed{g sz f mk:Nat}(h:code g=some (zcw sz f mk))(hM:M[b]?=some (.rich B))(hB:B[f]?=some (.imm (.val (.slice none 0 0)))):callW code ext g [.optr b 0] M=some (.tup [],M):=by
 rw[zad code ext h]
 simp -implicitDefEqProofs [zcw,zn1,zfc,hM,hB]
theorem zee{g sz by_ f mk:Nat}{zs:List Value}(h:code g=some (zcx sz by_ zs f mk))(hM:M[b]?=some (.rich B))(hB:B[f]?=some (.imm (.val (.slice none 0 0)))):callW code ext g [.optr b 0] M=some (.tup [],M):=by
 rw[zad code ext h]
 simp -implicitDefEqProofs [zcx,zn4,zfc,hM,hB]
theorem zfi{g sz f isn:Nat}(h:code g=some (zde sz f isn))(hM:M[b]?=some (.rich B))(hB:B[f]?=some (.imm (.val (.slice none 0 0)))):callW code ext g [.optr b 0] M=some (avb true,M):=by
 rw[zad code ext h]
 simp -implicitDefEqProofs [zde,zn8,zfc,hM,hB]
theorem ybi(h:code 25=some zsa)(hM:M[b]?=some (.rich B))(hB:B[1]?=some (.imm (.val (.slice none 0 0)))):callW code ext 25 [.optr b 0] M=some (.tup [],M):=
 zed (sz:=1) (f:=1) (mk:=411) h hM hB
theorem ybl(h:code 29=some zse)(hM:M[b]?=some (.rich B))(hB:B[2]?=some (.imm (.val (.slice none 0 0)))):callW code ext 29 [.optr b 0] M=some (.tup [],M):=
 zed (sz:=1) (f:=2) (mk:=415) h hM hB
theorem ybp(h:code 33=some zsk)(hM:M[b]?=some (.rich B))(hB:B[3]?=some (.imm (.val (.slice none 0 0)))):callW code ext 33 [.optr b 0] M=some (.tup [],M):=
 zed (sz:=1) (f:=3) (mk:=419) h hM hB
theorem ybh(h:code 24=some zr9)(hM:M[b]?=some (.rich B))(hB:B[6]?=some (.imm (.val (.slice none 0 0)))):callW code ext 24 [.optr b 0] M=some (.tup [],M):=
 zed (sz:=2) (f:=6) (mk:=410) h hM hB
theorem ybb(h:code 18=some zr3)(hM:M[b]?=some (.rich B))(hB:B[7]?=some (.imm (.val (.slice none 0 0)))):callW code ext 18 [.optr b 0] M=some (.tup [],M):=
 zed (sz:=3) (f:=7) (mk:=404) h hM hB
theorem yba(h:code 17=some zr2)(hM:M[b]?=some (.rich B))(hB:B[8]?=some (.imm (.val (.slice none 0 0)))):callW code ext 17 [.optr b 0] M=some (.tup [],M):=
 zed (sz:=2) (f:=8) (mk:=403) h hM hB
theorem ybg(h:code 23=some zr8)(hM:M[b]?=some (.rich B))(hB:B[9]?=some (.imm (.val (.slice none 0 0)))):callW code ext 23 [.optr b 0] M=some (.tup [],M):=
 zed (sz:=4) (f:=9) (mk:=409) h hM hB
theorem ybf(h:code 22=some zr7)(hM:M[b]?=some (.rich B))(hB:B[10]?=some (.imm (.val (.slice none 0 0)))):callW code ext 22 [.optr b 0] M=some (.tup [],M):=
 zed (sz:=8) (f:=10) (mk:=408) h hM hB
theorem ybe(h:code 21=some zr6)(hM:M[b]?=some (.rich B))(hB:B[11]?=some (.imm (.val (.slice none 0 0)))):callW code ext 21 [.optr b 0] M=some (.tup [],M):=
 zed (sz:=7) (f:=11) (mk:=407) h hM hB
theorem ybo(h:code 32=some zsh)(hM:M[b]?=some (.rich B))(hB:B[12]?=some (.imm (.val (.slice none 0 0)))):callW code ext 32 [.optr b 0] M=some (.tup [],M):=
 zed (sz:=6) (f:=12) (mk:=418) h hM hB
theorem ybq(h:code 35=some zsm)(hM:M[b]?=some (.rich B))(hB:B[13]?=some (.imm (.val (.slice none 0 0)))):callW code ext 35 [.optr b 0] M=some (.tup [],M):=
 zed (sz:=4) (f:=13) (mk:=421) h hM hB
theorem ybm(h:code 30=some zsf)(hM:M[b]?=some (.rich B))(hB:B[14]?=some (.imm (.val (.slice none 0 0)))):callW code ext 30 [.optr b 0] M=some (.tup [],M):=
 zed (sz:=6) (f:=14) (mk:=416) h hM hB
theorem ybj(h:code 26=some zsb)(hM:M[b]?=some (.rich B))(hB:B[15]?=some (.imm (.val (.slice none 0 0)))):callW code ext 26 [.optr b 0] M=some (.tup [],M):=
 zed (sz:=3) (f:=15) (mk:=412) h hM hB
theorem ybd(h:code 20=some zr5)(hM:M[b]?=some (.rich B))(hB:B[16]?=some (.imm (.val (.slice none 0 0)))):callW code ext 20 [.optr b 0] M=some (.tup [],M):=
 zed (sz:=2) (f:=16) (mk:=406) h hM hB
theorem ybc(h:code 19=some zr4)(hM:M[b]?=some (.rich B))(hB:B[17]?=some (.imm (.val (.slice none 0 0)))):callW code ext 19 [.optr b 0] M=some (.tup [],M):=
 zed (sz:=3) (f:=17) (mk:=405) h hM hB
theorem ybk(h:code 27=some zsc)(hM:M[b]?=some (.rich B))(hB:B[18]?=some (.imm (.val (.slice none 0 0)))):callW code ext 27 [.optr b 0] M=some (.tup [],M):=
 zed (sz:=5) (f:=18) (mk:=413) h hM hB
theorem ya9(h:code 16=some zr1)(hM:M[b]?=some (.rich B))(hB:B[19]?=some (.imm (.val (.slice none 0 0)))):callW code ext 16 [.optr b 0] M=some (.tup [],M):=
 zed (sz:=6) (f:=19) (mk:=402) h hM hB
theorem ybn(h:code 31=some zsg)(hM:M[b]?=some (.rich B))(hB:B[20]?=some (.imm (.val (.slice none 0 0)))):callW code ext 31 [.optr b 0] M=some (.tup [],M):=
 zed (sz:=2) (f:=20) (mk:=417) h hM hB
theorem yb0(h:code 45=some zs3)(hM:M[b]?=some (.rich B))(hB:B[1]?=some (.imm (.val (.slice none 0 0)))):callW code ext 45 [.optr b 0] M=some (.tup [],M):=
 zee (sz:=1) (by_:=8) (zs:=[(.int .i64 0)]) (f:=1) (mk:=411) h hM hB
theorem yb3(h:code 49=some zs8)(hM:M[b]?=some (.rich B))(hB:B[2]?=some (.imm (.val (.slice none 0 0)))):callW code ext 49 [.optr b 0] M=some (.tup [],M):=
 zee (sz:=1) (by_:=8) (zs:=[(.int .i64 0)]) (f:=2) (mk:=415) h hM hB
theorem yb7(h:code 53=some ztc)(hM:M[b]?=some (.rich B))(hB:B[3]?=some (.imm (.val (.slice none 0 0)))):callW code ext 53 [.optr b 0] M=some (.tup [],M):=
 zee (sz:=1) (by_:=16) (zs:=[(.string .empty)]) (f:=3) (mk:=419) h hM hB
theorem ybz(h:code 44=some zs2)(hM:M[b]?=some (.rich B))(hB:B[6]?=some (.imm (.val (.slice none 0 0)))):callW code ext 44 [.optr b 0] M=some (.tup [],M):=
 zee (sz:=2) (by_:=16) (zs:=[(.int .u8 0),(.int .i64 0)]) (f:=6) (mk:=410) h hM hB
theorem ybt(h:code 38=some zsr)(hM:M[b]?=some (.rich B))(hB:B[7]?=some (.imm (.val (.slice none 0 0)))):callW code ext 38 [.optr b 0] M=some (.tup [],M):=
 zee (sz:=3) (by_:=32) (zs:=[(.int .u8 0),(.int .i64 0),(.string .empty)]) (f:=7) (mk:=404) h hM hB
theorem ybs(h:code 37=some zsq)(hM:M[b]?=some (.rich B))(hB:B[8]?=some (.imm (.val (.slice none 0 0)))):callW code ext 37 [.optr b 0] M=some (.tup [],M):=
 zee (sz:=2) (by_:=16) (zs:=[(.bool false),(.int .i64 0)]) (f:=8) (mk:=403) h hM hB
theorem yby(h:code 43=some zs1)(hM:M[b]?=some (.rich B))(hB:B[9]?=some (.imm (.val (.slice none 0 0)))):callW code ext 43 [.optr b 0] M=some (.tup [],M):=
 zee (sz:=4) (by_:=32) (zs:=[(.int .i64 0),(.int .i64 0),(.int .i64 0),(.int .i64 0)]) (f:=9) (mk:=409) h hM hB
theorem ybx(h:code 42=some zs0)(hM:M[b]?=some (.rich B))(hB:B[10]?=some (.imm (.val (.slice none 0 0)))):callW code ext 42 [.optr b 0] M=some (.tup [],M):=
 zee (sz:=8) (by_:=152) (zs:=[(.string .empty),(.int .i64 0),(.int .i64 0),(.slice none 0 0),(.slice none 0 0),(.slice none 0 0),(.slice none 0 0),(.slice none 0 0)]) (f:=10) (mk:=408) h hM hB
theorem ybw(h:code 41=some zsx)(hM:M[b]?=some (.rich B))(hB:B[11]?=some (.imm (.val (.slice none 0 0)))):callW code ext 41 [.optr b 0] M=some (.tup [],M):=
 zee (sz:=7) (by_:=112) (zs:=[(.int .u8 0),(.int .i64 0),(.string .empty),(.slice none 0 0),(.slice none 0 0),(.slice none 0 0),(.int .i64 0)]) (f:=11) (mk:=407) h hM hB
theorem yb6(h:code 52=some ztb)(hM:M[b]?=some (.rich B))(hB:B[12]?=some (.imm (.val (.slice none 0 0)))):callW code ext 52 [.optr b 0] M=some (.tup [],M):=
 zee (sz:=6) (by_:=104) (zs:=[(.int .u8 0),(.string .empty),(.slice none 0 0),(.slice none 0 0),(.slice none 0 0),(.int .i64 0)]) (f:=12) (mk:=418) h hM hB
theorem yb8(h:code 55=some zte)(hM:M[b]?=some (.rich B))(hB:B[13]?=some (.imm (.val (.slice none 0 0)))):callW code ext 55 [.optr b 0] M=some (.tup [],M):=
 zee (sz:=4) (by_:=40) (zs:=[(.int .u8 0),(.string .empty),(.int .i64 0),(.int .i64 0)]) (f:=13) (mk:=421) h hM hB
theorem yb4(h:code 50=some zs9)(hM:M[b]?=some (.rich B))(hB:B[14]?=some (.imm (.val (.slice none 0 0)))):callW code ext 50 [.optr b 0] M=some (.tup [],M):=
 zee (sz:=6) (by_:=64) (zs:=[(.int .u8 0),(.int .i64 0),(.slice none 0 0),(.int .i64 0),(.int .u8 0),(.int .i64 0)]) (f:=14) (mk:=416) h hM hB
theorem yb1(h:code 46=some zs4)(hM:M[b]?=some (.rich B))(hB:B[15]?=some (.imm (.val (.slice none 0 0)))):callW code ext 46 [.optr b 0] M=some (.tup [],M):=
 zee (sz:=3) (by_:=24) (zs:=[(.int .i64 0),(.int .u8 0),(.int .i64 0)]) (f:=15) (mk:=412) h hM hB
theorem ybv(h:code 40=some zsv)(hM:M[b]?=some (.rich B))(hB:B[16]?=some (.imm (.val (.slice none 0 0)))):callW code ext 40 [.optr b 0] M=some (.tup [],M):=
 zee (sz:=2) (by_:=32) (zs:=[(.int .i64 0),(.slice none 0 0)]) (f:=16) (mk:=406) h hM hB
theorem ybu(h:code 39=some zst)(hM:M[b]?=some (.rich B))(hB:B[17]?=some (.imm (.val (.slice none 0 0)))):callW code ext 39 [.optr b 0] M=some (.tup [],M):=
 zee (sz:=3) (by_:=40) (zs:=[(.int .i64 0),(.int .i64 0),(.slice none 0 0)]) (f:=17) (mk:=405) h hM hB
theorem yb2(h:code 47=some zs5)(hM:M[b]?=some (.rich B))(hB:B[18]?=some (.imm (.val (.slice none 0 0)))):callW code ext 47 [.optr b 0] M=some (.tup [],M):=
 zee (sz:=5) (by_:=56) (zs:=[(.int .u8 0),(.slice none 0 0),(.int .i64 0),(.int .u8 0),(.int .i64 0)]) (f:=18) (mk:=413) h hM hB
theorem ybr(h:code 36=some zsn)(hM:M[b]?=some (.rich B))(hB:B[19]?=some (.imm (.val (.slice none 0 0)))):callW code ext 36 [.optr b 0] M=some (.tup [],M):=
 zee (sz:=6) (by_:=112) (zs:=[(.slice none 0 0),(.int .u8 0),(.slice none 0 0),(.slice none 0 0),(.slice none 0 0),(.int .i64 0)]) (f:=19) (mk:=402) h hM hB
theorem yb5(h:code 51=some zta)(hM:M[b]?=some (.rich B))(hB:B[20]?=some (.imm (.val (.slice none 0 0)))):callW code ext 51 [.optr b 0] M=some (.tup [],M):=
 zee (sz:=2) (by_:=32) (zs:=[(.int .i64 0),(.slice none 0 0)]) (f:=20) (mk:=417) h hM hB
theorem yci(h:code 75=some zpu)(hM:M[b]?=some (.rich B))(hB:B[1]?=some (.imm (.val (.slice none 0 0)))):callW code ext 75 [.optr b 0] M=some (avb true,M):=by
 rw[zad code ext h]
 simp -implicitDefEqProofs [zpu,z4i,zfc,hM,hB]
theorem ycl(h:code 79=some zpv)(hM:M[b]?=some (.rich B))(hB:B[2]?=some (.imm (.val (.slice none 0 0)))):callW code ext 79 [.optr b 0] M=some (avb true,M):=by
 rw[zad code ext h]
 simp -implicitDefEqProofs [zpv,z4j,zfc,hM,hB]
theorem ycp(h:code 83=some zpw)(hM:M[b]?=some (.rich B))(hB:B[3]?=some (.imm (.val (.slice none 0 0)))):callW code ext 83 [.optr b 0] M=some (avb true,M):=by
 rw[zad code ext h]
 simp -implicitDefEqProofs [zpw,z4k,zfc,hM,hB]
theorem ych(h:code 74=some ztp)(hM:M[b]?=some (.rich B))(hB:B[6]?=some (.imm (.val (.slice none 0 0)))):callW code ext 74 [.optr b 0] M=some (avb true,M):=
 zfi (sz:=2) (f:=6) (isn:=390) h hM hB
theorem ycb(h:code 68=some zti)(hM:M[b]?=some (.rich B))(hB:B[7]?=some (.imm (.val (.slice none 0 0)))):callW code ext 68 [.optr b 0] M=some (avb true,M):=
 zfi (sz:=3) (f:=7) (isn:=384) h hM hB
theorem yca(h:code 67=some zth)(hM:M[b]?=some (.rich B))(hB:B[8]?=some (.imm (.val (.slice none 0 0)))):callW code ext 67 [.optr b 0] M=some (avb true,M):=
 zfi (sz:=2) (f:=8) (isn:=383) h hM hB
theorem ycg(h:code 73=some zto)(hM:M[b]?=some (.rich B))(hB:B[9]?=some (.imm (.val (.slice none 0 0)))):callW code ext 73 [.optr b 0] M=some (avb true,M):=
 zfi (sz:=4) (f:=9) (isn:=389) h hM hB
theorem ycf(h:code 72=some ztn)(hM:M[b]?=some (.rich B))(hB:B[10]?=some (.imm (.val (.slice none 0 0)))):callW code ext 72 [.optr b 0] M=some (avb true,M):=
 zfi (sz:=8) (f:=10) (isn:=388) h hM hB
theorem yce(h:code 71=some ztm)(hM:M[b]?=some (.rich B))(hB:B[11]?=some (.imm (.val (.slice none 0 0)))):callW code ext 71 [.optr b 0] M=some (avb true,M):=
 zfi (sz:=7) (f:=11) (isn:=387) h hM hB
theorem yco(h:code 82=some ztw)(hM:M[b]?=some (.rich B))(hB:B[12]?=some (.imm (.val (.slice none 0 0)))):callW code ext 82 [.optr b 0] M=some (avb true,M):=
 zfi (sz:=6) (f:=12) (isn:=398) h hM hB
theorem ycq(h:code 85=some zty)(hM:M[b]?=some (.rich B))(hB:B[13]?=some (.imm (.val (.slice none 0 0)))):callW code ext 85 [.optr b 0] M=some (avb true,M):=
 zfi (sz:=4) (f:=13) (isn:=401) h hM hB
theorem ycm(h:code 80=some ztu)(hM:M[b]?=some (.rich B))(hB:B[14]?=some (.imm (.val (.slice none 0 0)))):callW code ext 80 [.optr b 0] M=some (avb true,M):=
 zfi (sz:=6) (f:=14) (isn:=396) h hM hB
theorem ycj(h:code 76=some ztq)(hM:M[b]?=some (.rich B))(hB:B[15]?=some (.imm (.val (.slice none 0 0)))):callW code ext 76 [.optr b 0] M=some (avb true,M):=
 zfi (sz:=3) (f:=15) (isn:=392) h hM hB
theorem ycd(h:code 70=some ztl)(hM:M[b]?=some (.rich B))(hB:B[16]?=some (.imm (.val (.slice none 0 0)))):callW code ext 70 [.optr b 0] M=some (avb true,M):=
 zfi (sz:=2) (f:=16) (isn:=386) h hM hB
theorem ycc(h:code 69=some ztj)(hM:M[b]?=some (.rich B))(hB:B[17]?=some (.imm (.val (.slice none 0 0)))):callW code ext 69 [.optr b 0] M=some (avb true,M):=
 zfi (sz:=3) (f:=17) (isn:=385) h hM hB
theorem yck(h:code 77=some ztr)(hM:M[b]?=some (.rich B))(hB:B[18]?=some (.imm (.val (.slice none 0 0)))):callW code ext 77 [.optr b 0] M=some (avb true,M):=
 zfi (sz:=5) (f:=18) (isn:=393) h hM hB
theorem yb9(h:code 66=some ztg)(hM:M[b]?=some (.rich B))(hB:B[19]?=some (.imm (.val (.slice none 0 0)))):callW code ext 66 [.optr b 0] M=some (avb true,M):=
 zfi (sz:=6) (f:=19) (isn:=382) h hM hB
theorem ycn(h:code 81=some ztv)(hM:M[b]?=some (.rich B))(hB:B[20]?=some (.imm (.val (.slice none 0 0)))):callW code ext 81 [.optr b 0] M=some (avb true,M):=
 zfi (sz:=2) (f:=20) (isn:=397) h hM hB
end
section
variable {code:Nat->Option zab} {ext:zac}
def Ty.part{α:Type}(t:Ty α)(z:α)(xs:List α)(n:Nat):List IV:=t.row (xs++List.replicate n z)
theorem zqy{α:Type}(t:Ty α)(z:α)(xs:List α)(n:Nat):(t.part z xs n).length=(xs.length+n)*t.sz:=by
 unfold Ty.part;rw[zbg];simp
theorem zqz{α:Type}(t:Ty α)(h0:0<t.sz)(z:α)(xs:List α)(n:Nat)(x:α):setAll (t.part z xs (n+1)) (xs.length*t.sz) (t.enc x)=t.part z (xs++[x]) n:=by
 unfold Ty.part
 rw[zwo h0 (by simp)]
 congr 1
 rw[xbs _ _ (xan _)]
 simp[List.replicate_succ]
def zrw(sz bytes:Nat)(zs:List Value):XCode:=
 (.seq (.seq (.region [0,3,4,12] [⟨(some 9),.mv (.t 4),none⟩,
  ⟨(some 10),.mv (.t 0),none⟩,
  ⟨(some 11),.len (.t 10),none⟩,
  ⟨(some 12),.bin .lss (.t 9) (.t 11),none⟩])
 (.cond (.t 12)
  .skip
  (.exit 0)))
 (.seq (.block 1 (.region [0,3,4] [⟨(some 15),.mv (.t 3),none⟩,
  ⟨(some 16),.mv (.t 0),none⟩,
  ⟨(some 17),.mv (.t 4),none⟩,
  ⟨(some 18),.idxA sz (.t 16) (.t 17),none⟩,
  ⟨(some 19),.load (some sz) (.t 18),none⟩,
  ⟨(some 20),.buildSlice sz zs 1 [(0,sz,(.t 19))],none⟩,
  ⟨(some 21),.append sz bytes (.t 15) (.t 20),none⟩,
  ⟨(some 3),.mv (.t 21),none⟩]))
 (.region [0,3,4] [⟨(some 13),.mv (.t 4),none⟩,
  ⟨(some 14),.bin .add (.t 13) (.c (.int .i64 1)),none⟩,
  ⟨(some 4),.mv (.t 14),none⟩])))
def z3t(sz bytes:Nat)(zs:List Value)(k:Nat)(v:Value):zab:=⟨[.tmp 2],
 (.seq (.region [0] [⟨(some 2),.mv (.c (.slice none 0 0)),none⟩])
 (.seq (.region [0,3] [⟨(some 5),.mv (.t 0),none⟩,
  ⟨(some 6),.len (.t 5),none⟩,
  ⟨(some 7),.bin .add (.t 6) (.c (.int .i64 1)),none⟩,
  ⟨(some 8),.makeSlice sz bytes zs (.c (.int .i64 0)) (.t 7),none⟩,
  ⟨(some 3),.mv (.t 8),none⟩])
 (.seq (.seq (.region [0,3,4] [⟨(some 4),.mv (.c (.int .i64 0)),none⟩])
 (.block 0 (.loop [0,3,4] (zrw sz bytes zs))))
 (.seq (.region [2] [⟨(some 22),.mv (.t 3),none⟩,
  ⟨(some 23),(.build zs [(k,1,(.c v))]),none⟩,
  ⟨(some 24),.buildSlice sz zs 1 [(0,sz,(.t 23))],none⟩,
  ⟨(some 25),.append sz bytes (.t 22) (.t 24),none⟩,
  ⟨(some 26),.mv (.t 0),none⟩,
  ⟨(some 27),.len (.t 26),none⟩,
  ⟨(some 28),.slice sz (.t 25) none (some (.t 27)),none⟩,
  ⟨(some 2),.mv (.t 28),none⟩])
 .ret))))⟩
section
variable {α:Type} (t:Ty α) (z sp:α) (bytes:Nat) (zs:List Value)
theorem z1k(hz:zs.map IV.val=t.enc z)(x:α):zdu (setAll (zs.map fun z=>AV.imm (.val z)) 0 ((t.enc x).map AV.imm))=some (t.enc x):=by
 have h1:zs.length=t.sz:=by rw[<-t.len z,<-hz];simp
 rw[z26 _ _ (by simp[h1,t.len])]
 simp
theorem yhc(h0:0<t.sz)(hz:zs.map IV.val=t.enc z)(iv:IV)(xs:List α)(h:zao t iv xs){s:St}(hb:xs.length<9223372036854775807)
  (hst:s.tidy [0,3,4]=⟨0,[(0,.imm iv),(3,.osl 0 0 t.sz 0 (some (xs.length+1))),(4,zaa 0)],[.flat (t.part z [] (xs.length+1)) false]⟩):
  ∃e s',den code ext (.loop [0,3,4] (zrw t.sz bytes zs)) s=some (e,s')/\e≠ .normal/\
   (e=.exit 0/\s'=⟨0,[(0,.imm iv),(3,.osl 0 0 t.sz xs.length (some (xs.length+1))),(4,zaa xs.length),(12,avb false)],[.flat (t.part z xs 1) false]⟩):=by
 refine zb1 (fun n s=>∃i,i+n=xs.length/\s.tidy [0,3,4]=⟨0,[(0,.imm iv),(3,.osl 0 0 t.sz i (some (xs.length+1))),(4,zaa (i:Nat))],[.flat (t.part z (xs.take i) (n+1)) false]⟩) _ ?_ xs.length _ ⟨0,by simp,by simpa using hst⟩
 clear hst
 rintro n s ⟨i,hi,hst⟩
 rw[hst]
 have hlen:=zaz h
 by_cases hlt:i<xs.length
 ·obtain⟨row,off,cap,rfl,hc,hcut,hget⟩:=zb6 h (xab hlt)
  have e1:IntKind.wrap .i64 ((i:Int)+1)=(i:Int)+1:=zap (by omega) (by omega)
  obtain⟨m,rfl⟩:∃m,n=m+1:=⟨n-1,by omega⟩
  have hlt':(i:Int)<xs.length:=by omega
  have hle:((t.enc xs[i]).map AV.imm).length=t.sz:=by rw[xam,t.len]
  have hzl:(imZ (zar 1 zs)).length=t.sz:=by rw[<-t.len z,<-hz];simp[imZ]
  have hel:∀(A B:List IV),elems [.flat A false,.flat (t.enc xs[i]) false] t.sz (.osl 1 0 t.sz 1 (some 1))=some (1,t.enc xs[i]):=by
   intro A B
   simp only[elems,xbb,xbw,xc4]
   rw[zda _ (t.len _)];rfl
  have htk:xs.take (i+1)=xs.take i++[xs[i]]:=by rw[xbk,xab hlt];rfl
  have hset:=zqz t h0 z (xs.take i) (m+1) xs[i]
  have hti:(xs.take i).length=i:=by rw[xca];omega
  rw[hti,<-htk]at hset
  have hfit:(i+1)*t.sz<=(t.part z (xs.take i) (m+1+1)).length:=by
   rw[zqy,hti];exact xb8 _ (by omega)
  have hap:za0 ⟨0,[(20,.osl 1 0 t.sz 1 (some 1)),(19,.agg ((t.enc xs[i]).map AV.imm)),(18,.imm (.ptr row (off+i*t.sz))),(17,zaa (i:Nat)),(16,.imm (.slice row off xs.length cap)),(15,.osl 0 0 t.sz i (some (xs.length+1))),
    (0,.imm (.slice row off xs.length cap)),(3,.osl 0 0 t.sz i (some (xs.length+1))),(4,zaa (i:Nat)),(12,avb true)],[.flat (t.part z (xs.take i) (m+1+1)) false,.flat (t.enc xs[i]) false]⟩ t.sz bytes (.osl 0 0 t.sz i (some (xs.length+1))) (.osl 1 0 t.sz 1 (some 1))=
    some (.osl 0 0 t.sz (i+1) (some (xs.length+1)),⟨0,[(20,.osl 1 0 t.sz 1 (some 1)),(19,.agg ((t.enc xs[i]).map AV.imm)),(18,.imm (.ptr row (off+i*t.sz))),(17,zaa (i:Nat)),(16,.imm (.slice row off xs.length cap)),(15,.osl 0 0 t.sz i (some (xs.length+1))),
    (0,.imm (.slice row off xs.length cap)),(3,.osl 0 0 t.sz i (some (xs.length+1))),(4,zaa (i:Nat)),(12,avb true)],[.flat (t.part z (xs.take (i+1)) (m+1)) false,.flat (t.enc xs[i]) false]⟩):=by
   simp only[za0,za1,hel _ []]
   simp[hset,hfit,show i+1<=xs.length+1 by omega]
  refine⟨.normal,⟨0,[(0,.imm (.slice row off xs.length cap)),(3,.osl 0 0 t.sz (i+1) (some (xs.length+1))),(4,zaa ((i:Int)+1))],[.flat (t.part z (xs.take (i+1)) (m+1)) false,.flat (t.enc xs[i]) false]⟩,?_,.inl ⟨rfl,m,by omega,i+1,by omega,?_⟩⟩
  ·have hone':=z1k t z zs hz xs[i]
   have hzs:zs.length=t.sz:=by rw[<-t.len z,<-hz];simp
   have hl2:=t.len xs[i]
   simp -implicitDefEqProofs [zrw,hlt',hget,hl2,hzs,hone',hap,e1]
  ·simp -implicitDefEqProofs
 ·have:i=xs.length:=by omega
  subst this
  refine⟨.exit 0,⟨0,[(0,.imm iv),(3,.osl 0 0 t.sz xs.length (some (xs.length+1))),(4,zaa xs.length),(12,avb false)],[.flat (t.part z xs 1) false]⟩,?_,.inr ⟨by simp,rfl,rfl⟩⟩
  have:n=0:=by omega
  subst this
  simp -implicitDefEqProofs [zrw,hlen]
theorem yhd(h0:0<t.sz)(hz:zs.map IV.val=t.enc z)(hzs:∀v∈zs,v.oneCell'=true)(k:Nat)(v:Value)(hk:k+1<=t.sz)(hp:setAll (zs.map fun z=>AV.imm (.val z)) k [.imm (.val v)]=(t.enc sp).map .imm)
  {g:Nat} (hg:code g=some (z3t t.sz bytes zs k v)) {iv:IV} {xs:List α} (h:zao t iv xs) (hb1:xs.length<9223372036854775807) (hb2:bytes*(xs.length+1)<=281474976710656):
  callW code ext g [.imm iv] []=some (.osl 0 0 t.sz xs.length (some (xs.length+1)),[.flat (t.row (xs++[sp])) false]):=by
 rw[zad code ext hg]
 have hcp:zar (xs.length+1) (zs.map IV.val)=t.part z [] (xs.length+1):=by rw[hz,zul];rfl
 obtain⟨e,s',h1,_,rfl,rfl⟩:=yhc (code:=code) (ext:=ext) t z bytes zs h0 hz iv xs h (s:=⟨0,[(0,.imm iv),(3,.osl 0 0 t.sz 0 (some (xs.length+1))),(4,zaa 0)],[.flat (t.part z [] (xs.length+1)) false]⟩) hb1 (by simp -implicitDefEqProofs)
 have hlen:=zaz h
 have e1:IntKind.wrap .i64 ((xs.length:Int)+1)=(xs.length:Int)+1:=zap (by omega) (by omega)
 have e2:(0:Int)<=(xs.length:Int)+1:=by omega
 have e3:(bytes:Int)*((xs.length:Int)+1)<=281474976710656:=by
  have:((bytes*(xs.length+1):Nat):Int)<=281474976710656:=by omega
  simpa using this
 have e4:(xs.length:Int)+1<=9223372036854775807:=by omega
 have e6:(xs.length:Int)<=(xs.length:Int)+1:=by omega
 have e5:((xs.length:Int)+1).toNat=xs.length+1:=by omega
 have hzl:zs.length=t.sz:=by rw[<-t.len z,<-hz];simp
 have hone':=z1k t z zs hz sp
 have hl2:=t.len sp
 have hel:∀(A B:List IV),elems [.flat A false,.flat (t.enc sp) false] t.sz (.osl 1 0 t.sz 1 (some 1))=some (1,t.enc sp):=by
  intro A B
  simp only[elems,xbb,xbw,xc4]
  rw[zda _ (t.len _)];rfl
 have hset:=zqz t h0 z xs 0 sp
 have hfin:t.part z (xs++[sp]) 0=t.row (xs++[sp]):=by unfold Ty.part;simp
 have hfit:(xs.length+1)*t.sz<=(t.part z xs (0+1)).length:=by rw[zqy];exact xan _
 rw[hfin]at hset
 simp only[xau]at hset hfit
 simp -implicitDefEqProofs [z3t,hlen,e6,e1,e2,e3,e4,e5,hcp,h1,hp,hk,hzl,hl2,hone',za0,za1,hel _ [],hset,hfit,zf6]
end
end
def za3(cells:List AV)(o:AObj):Prop:=o=.rich cells\/∃cs,o=.flat cs false/\cells=cs.map .imm
def ze7(M:Mem)(vx:AV)(cells:List AV)(ne:Nat):Prop:=
 (vx=zaf/\cells=[]/\ne=0)\/∃vid o,vx=.osl vid 0 3 ne none/\M[vid]?=some o/\za3 cells o/\cells.length=ne*3/\0<ne
def zc5(M:Mem):AV->Mem
 |.osl id _ _ _ _=>M.set id .dead
 |_=>M
theorem yfh(one:List AV):za3 one (zbn one):=by
 unfold zbn
 cases h:zdu one with
 |none=>exact .inl rfl
 |some xs=>exact .inr ⟨xs,rfl,zio _ _ h⟩
theorem zwf{M:Mem}{id n sz:Nat}{cells:List AV}{o:AObj}{cap:Option Nat}(hM:M[id]?=some o)(h:za3 cells o)(hl:cells.length=n*sz):zbq M sz (.osl id 0 sz n cap)=some (n,cells):=by
 rcases h with rfl|⟨cs,rfl,rfl⟩
 ·simp only[zbq,hM]
  rw[zda _ hl];rfl
 ·rw[xam]at hl
  simp only[zbq,hM]
  rw[zda _ hl];rfl
theorem zfe{α:Type}(M:List α)(x:α):(M++[x])[M.length]?=some x:=by simp
theorem zq1(k:Nat)(e:Env){M:Mem}{vx:AV}{cells one:List AV}{ne:Nat}(h1:one.length=3)(h:ze7 M vx cells ne)(hk:∀id∈vx.refs,id<k)(hn:ne<=1000000000):
  ∃o',za3 (cells++one) o'/\za0 ⟨k,e,M++[zbn one]⟩ 3 56 vx (.osl M.length 0 3 1 (some 1))=some (.osl (M.length+1) 0 3 (ne+1) none,⟨k,e,zc5 M vx++[zbn one,o']⟩):=by
 have hr2:zbq (M++[zbn one]) 3 (.osl M.length 0 3 1 (some 1))=some (1,one):=zwf (zfe _ _) (yfh one) (by omega)
 rcases h with⟨rfl,rfl,rfl⟩|⟨vid,o,rfl,ho,hrow,hl,hpos⟩
 ·cases him:zdu one with
  |none=>
   refine⟨.rich one,.inl rfl,?_⟩
   have hmk:zbn one=.rich one:=by unfold zbn;rw[him]
   rw[hmk]at hr2 ⊢
   have hel:elems (M++[.rich one]) 3 (.osl M.length 0 3 1 (some 1))=none:=by
    simp only[elems,zfe]
    rw[zda _ (by omega)]
    simp[him]
   simp only[za0,za1,hel,zb4,hr2]
   simp[zc5,fresh]
  |some xs=>
   have hxs:=zio _ _ him
   subst hxs
   refine⟨.flat xs false,.inr ⟨xs,rfl,rfl⟩,?_⟩
   have hmk:zbn (xs.map .imm)=.flat xs false:=by unfold zbn;rw[him]
   rw[hmk]at hr2 ⊢
   rw[xam]at h1
   have hel:elems (M++[.flat xs false]) 3 (.osl M.length 0 3 1 (some 1))=some (1,xs):=by
    simp only[elems,zfe]
    rw[zda _ (by omega)];rfl
   simp only[za0,za1,hel]
   simp[zc5,fresh]
 ·have hvl:vid<M.length:=(xaa.1 ho).1
  have hvk:¬k<=vid:=by have:=hk vid (by simp[AV.refs]);omega
  refine⟨.rich (cells++one),.inl rfl,?_⟩
  have hr1:zbq (M++[zbn one]) 3 (.osl vid 0 3 ne none)=some (ne,cells):=zwf (by rw[xac hvl];exact ho) hrow hl
  have hset:(M++[zbn one]).set vid .dead=M.set vid .dead++[zbn one]:=by rw[xc0 _ _ hvl]
  have hA:zb4 ⟨k,e,M++[zbn one]⟩ 3 56 (.osl vid 0 3 ne none) (.osl M.length 0 3 1 (some 1))=some (.osl (M.length+1) 0 3 (ne+1) none,⟨k,e,zc5 M (.osl vid 0 3 ne none)++[zbn one,.rich (cells++one)]⟩):=by
   simp only[zb4,hr2,hr1]
   have hb:(ne+1)*56<=140737488355328:=by omega
   simp[hb,hset,zc5,-zbn]
  have hno:za1 ⟨k,e,M++[zbn one]⟩ 3 56 (.osl vid 0 3 ne none) (.osl M.length 0 3 1 (some 1))=none:=by
   unfold za1
   cases elems (M++[zbn one]) 3 (.osl M.length 0 3 1 (some 1))with
   |none=>rfl
   |some p=>simp[hvk]
  simp only[za0,hno]
  exact hA
section
variable {code:Nat->Option zab} {ext:zac} {M:Mem} {b:Nat} {B:List AV}
theorem zl9(M:Mem)(vx:AV):(zc5 M vx).length=M.length:=by
 cases vx<;>simp[zc5]
theorem zl8{M:Mem}{vx:AV}{id:Nat}(h:id ∉ vx.refs):(zc5 M vx)[id]?=M[id]?:=by
 cases vx with
 |osl i a c d e=>
  simp only[zc5]
  rw[xa0]
  intro he
  apply h
  simp[AV.refs,he]
 |_=>rfl
theorem zri(B:List AV)(j:Nat)(x y:AV){i:Nat}(h0:i≠0)(hj:i≠j):((B.set 0 x).set j y)[i]?=B[i]?:=by
 rw[xa0 (fun h=>hj h.symm),xa0 (fun h=>h0 h.symm)]
theorem z80(h:code 64=some zi3)(hM:M[b]?=some (.rich B))(hB:B.length=21){n:Int}(h0:B[0]?=some (zaa n))(hn0:0<=n)(hn:n<=1000000000){vx x:AV}{cells:List AV}{ne:Nat}(h4:B[4]?=some vx)(hh:ze7 M vx cells ne)(hne:ne<=1000000000)
  (hx:x.cells=some [x]) (hvx:∀id∈vx.refs,id<M.length/\id≠b):
  ∃o',za3 (cells++[x,zaf,zaa (n+1)]) o'/\callW code ext 64 [.optr b 0,x] M=
   some (.tup [],(zc5 (M.set b (.rich ((B.set 0 (zaa (n+1))).set 4 (.osl (M.length+1) 0 3 (ne+1) none)))) vx)++[zbn [x,zaf,zaa (n+1)],o']):=by
 have hbl:b<M.length:=(xaa.1 hM).1
 have e1:IntKind.wrap .i64 (n+1)=n+1:=zap (by omega) (by omega)
 have hM1:(M.set b (.rich (B.set 0 (zaa (n+1)))))[b]?=some (.rich (B.set 0 (zaa (n+1)))):=by simp[hbl]
 have hB4:(B.set 0 (zaa (n+1)))[4]?=some vx:=by rw[xa0 (by decide)];exact h4
 have hB0:(B.set 0 (zaa (n+1)))[0]?=some (zaa (n+1)):=by simp[hB]
 have hh1:ze7 (M.set b (.rich (B.set 0 (zaa (n+1))))) vx cells ne:=by
  rcases hh with hh|⟨vid,o,rfl,ho,hr⟩
  ·exact .inl hh
  ·refine .inr ⟨vid,o,rfl,?_,hr⟩
   rw[xa0 (fun e=>(hvx vid (by simp[AV.refs])).2 e.symm)]
   exact ho
 have hl1:(M.set b (.rich (B.set 0 (zaa (n+1))))).length=M.length:=by simp
 obtain⟨o',ho',hap⟩:∃o',za3 (cells++[x,zaf,zaa (n+1)]) o'/\∀e,za0 ⟨M.length,e,M.set b (.rich (B.set 0 (zaa (n+1))))++[zbn [x,zaf,zaa (n+1)]]⟩ 3 56 vx (.osl M.length 0 3 1 (some 1))=
   some (.osl (M.length+1) 0 3 (ne+1) none,⟨M.length,e,zc5 (M.set b (.rich (B.set 0 (zaa (n+1))))) vx++[zbn [x,zaf,zaa (n+1)],o']⟩):=by
  obtain⟨o',h1,h2⟩:=zq1 M.length [] (one:=[x,zaf,zaa (n+1)]) rfl hh1 (fun id hid=>(hvx id hid).1) hne
  refine⟨o',h1,fun e=>?_⟩
  obtain⟨o2,h3,h4⟩:=zq1 M.length e (one:=[x,zaf,zaa (n+1)]) rfl hh1 (fun id hid=>(hvx id hid).1) hne
  rw[hl1]at h2 h4
  rw[h4]
  obtain⟨f,q1,q2,q3⟩:=znp h2
  have h5:=q3 e
  rw[h4]at h5
  simp only[xae,xax,St.mk.injEq,true_and]at h5
  rw[h5.2]
 refine⟨o',ho',?_⟩
 generalize hK:zc5 (M.set b (.rich (B.set 0 (zaa (n+1))))) vx=K at hap
 have hKb:(K++[zbn [x,zaf,zaa (n+1)],o'])[b]?=some (.rich (B.set 0 (zaa (n+1)))):=by
  rw[xac (by rw[<-hK,zl9];simpa using hbl),<-hK,zl8 (fun hid=>(hvx b hid).2 rfl)]
  exact hM1
 have hKs:∀y,(K++[zbn [x,zaf,zaa (n+1)],o']).set b y=zc5 (M.set b y) vx++[zbn [x,zaf,zaa (n+1)],o']:=by
  intro y
  rw[xc0 _ _ (by rw[<-hK,zl9];simpa using hbl),<-hK]
  congr 1
  cases vx with
  |osl i a c d e=>
   have:=(hvx i (by simp[AV.refs])).2
   simp only[zc5]
   rw[List.set_comm _ _ this.symm,List.set_set]
   exact List.set_comm _ _ this
  |_=>simp[zc5]
 rw[zad code ext h]
 have hs0:setAll B 0 [zaa (n+1)]=B.set 0 (zaa (n+1)):=rfl
 have hsf:setAll (B.set 0 (zaa (n+1))) 4 [.osl (M.length+1) 0 3 (ne+1) none]=(B.set 0 (zaa (n+1))).set 4 (.osl (M.length+1) 0 3 (ne+1) none):=rfl
 have hBl:(B.set 0 (zaa (n+1))).length=21:=by simpa using hB
 have hfi:zcm [zaf,zaf,zaa 0] [(0,1,x),(2,1,zaa (n+1))]=some [x,zaf,zaa (n+1)]:=by
  simp only[zcm,hx];rfl
 have hf2:zcm [zaf,zaf,zaa 0] [(0,3,.agg [x,zaf,zaa (n+1)])]=some [x,zaf,zaa (n+1)]:=rfl
 simp -implicitDefEqProofs [zi3,hM,hB,h0,e1,hs0,-getElem?_pos,hM1,hB4,hB0,hl1,hfi,hf2,-zcm,hap,hKb,hsf,hBl,hKs,-zbn]
theorem z8z(h:code 62=some zla)(hM:M[b]?=some (.rich B))(hB:B.length=21){n:Int}(h0:B[0]?=some (zaa n))(hn0:0<=n)(hn:n<=1000000000){vx x:AV}{cells:List AV}{ne:Nat}(h4:B[5]?=some vx)(hh:ze7 M vx cells ne)(hne:ne<=1000000000)
  (hx:x.cells=some [x]) (hvx:∀id∈vx.refs,id<M.length/\id≠b):
  ∃o',za3 (cells++[x,zaf,zaa (n+1)]) o'/\callW code ext 62 [.optr b 0,x] M=
   some (.tup [],(zc5 (M.set b (.rich ((B.set 0 (zaa (n+1))).set 5 (.osl (M.length+1) 0 3 (ne+1) none)))) vx)++[zbn [x,zaf,zaa (n+1)],o']):=by
 have hbl:b<M.length:=(xaa.1 hM).1
 have e1:IntKind.wrap .i64 (n+1)=n+1:=zap (by omega) (by omega)
 have hM1:(M.set b (.rich (B.set 0 (zaa (n+1)))))[b]?=some (.rich (B.set 0 (zaa (n+1)))):=by simp[hbl]
 have hB4:(B.set 0 (zaa (n+1)))[5]?=some vx:=by rw[xa0 (by decide)];exact h4
 have hB0:(B.set 0 (zaa (n+1)))[0]?=some (zaa (n+1)):=by simp[hB]
 have hh1:ze7 (M.set b (.rich (B.set 0 (zaa (n+1))))) vx cells ne:=by
  rcases hh with hh|⟨vid,o,rfl,ho,hr⟩
  ·exact .inl hh
  ·refine .inr ⟨vid,o,rfl,?_,hr⟩
   rw[xa0 (fun e=>(hvx vid (by simp[AV.refs])).2 e.symm)]
   exact ho
 have hl1:(M.set b (.rich (B.set 0 (zaa (n+1))))).length=M.length:=by simp
 obtain⟨o',ho',hap⟩:∃o',za3 (cells++[x,zaf,zaa (n+1)]) o'/\∀e,za0 ⟨M.length,e,M.set b (.rich (B.set 0 (zaa (n+1))))++[zbn [x,zaf,zaa (n+1)]]⟩ 3 56 vx (.osl M.length 0 3 1 (some 1))=
   some (.osl (M.length+1) 0 3 (ne+1) none,⟨M.length,e,zc5 (M.set b (.rich (B.set 0 (zaa (n+1))))) vx++[zbn [x,zaf,zaa (n+1)],o']⟩):=by
  obtain⟨o',h1,h2⟩:=zq1 M.length [] (one:=[x,zaf,zaa (n+1)]) rfl hh1 (fun id hid=>(hvx id hid).1) hne
  refine⟨o',h1,fun e=>?_⟩
  obtain⟨o2,h3,h4⟩:=zq1 M.length e (one:=[x,zaf,zaa (n+1)]) rfl hh1 (fun id hid=>(hvx id hid).1) hne
  rw[hl1]at h2 h4
  rw[h4]
  obtain⟨f,q1,q2,q3⟩:=znp h2
  have h5:=q3 e
  rw[h4]at h5
  simp only[xae,xax,St.mk.injEq,true_and]at h5
  rw[h5.2]
 refine⟨o',ho',?_⟩
 generalize hK:zc5 (M.set b (.rich (B.set 0 (zaa (n+1))))) vx=K at hap
 have hKb:(K++[zbn [x,zaf,zaa (n+1)],o'])[b]?=some (.rich (B.set 0 (zaa (n+1)))):=by
  rw[xac (by rw[<-hK,zl9];simpa using hbl),<-hK,zl8 (fun hid=>(hvx b hid).2 rfl)]
  exact hM1
 have hKs:∀y,(K++[zbn [x,zaf,zaa (n+1)],o']).set b y=zc5 (M.set b y) vx++[zbn [x,zaf,zaa (n+1)],o']:=by
  intro y
  rw[xc0 _ _ (by rw[<-hK,zl9];simpa using hbl),<-hK]
  congr 1
  cases vx with
  |osl i a c d e=>
   have:=(hvx i (by simp[AV.refs])).2
   simp only[zc5]
   rw[List.set_comm _ _ this.symm,List.set_set]
   exact List.set_comm _ _ this
  |_=>simp[zc5]
 rw[zad code ext h]
 have hs0:setAll B 0 [zaa (n+1)]=B.set 0 (zaa (n+1)):=rfl
 have hsf:setAll (B.set 0 (zaa (n+1))) 5 [.osl (M.length+1) 0 3 (ne+1) none]=(B.set 0 (zaa (n+1))).set 5 (.osl (M.length+1) 0 3 (ne+1) none):=rfl
 have hBl:(B.set 0 (zaa (n+1))).length=21:=by simpa using hB
 have hfi:zcm [zaf,zaf,zaa 0] [(0,1,x),(2,1,zaa (n+1))]=some [x,zaf,zaa (n+1)]:=by
  simp only[zcm,hx];rfl
 have hf2:zcm [zaf,zaf,zaa 0] [(0,3,.agg [x,zaf,zaa (n+1)])]=some [x,zaf,zaa (n+1)]:=rfl
 simp -implicitDefEqProofs [zla,hM,hB,h0,e1,hs0,-getElem?_pos,hM1,hB4,hB0,hl1,hfi,hf2,-zcm,hap,hKb,hsf,hBl,hKs,-zbn]
end
structure Bk (M:Mem) (b:Nat) (n:Int) (vx:AV) (vc:List AV) (vn:Nat) (ox:AV) (oc:List AV) (on:Nat):Prop where
 B:∃B,M[b]?=some (.rich B)/\B.length=21/\B[0]?=some (zaa n)/\B[4]?=some vx/\B[5]?=some ox/\∀j,1<=j->j<21->j≠4->j≠5->B[j]?=some zaf
 v:ze7 M vx vc vn
 o:ze7 M ox oc on
 vr:∀id∈vx.refs,id<M.length/\id≠b
 or:∀id∈ox.refs,id<M.length/\id≠b
 vo:∀id∈vx.refs,id ∉ ox.refs
theorem zhs{M M':Mem}{x:AV}{c:List AV}{n:Nat}(h:ze7 M x c n)(hs:∀id∈x.refs,M'[id]?=M[id]?):ze7 M' x c n:=by
 rcases h with h|⟨vid,o,rfl,ho,h⟩
 ·exact .inl h
 ·exact .inr ⟨vid,o,rfl,by rw[hs vid (by simp[AV.refs])];exact ho,h⟩
structure Frm (M M':Mem) (b:Nat) (x:AV):Prop where
 len:M.length<=M'.length
 same:∀id,id<M.length->id≠b->id ∉ x.refs->M'[id]?=M[id]?
section
variable {code:Nat->Option zab} {ext:zac} {M:Mem} {b:Nat} {n:Int} {vx ox x:AV} {vc oc:List AV} {vn on:Nat}
theorem z52(h:code 64=some zi3)(k:Bk M b n vx vc vn ox oc on)(hn0:0<=n)(hn:n<=1000000000)(hne:vn<=1000000000)(hx:x.cells=some [x]):
  ∃M',callW code ext 64 [.optr b 0,x] M=some (.tup [],M')/\Bk M' b (n+1) (.osl (M.length+1) 0 3 (vn+1) none) (vc++[x,zaf,zaa (n+1)]) (vn+1) ox oc on/\Frm M M' b vx/\M.length+1<M'.length:=by
 obtain⟨B,hM,hB,h0,h4,h5,ho⟩:=k.B
 have hbl:b<M.length:=(xaa.1 hM).1
 obtain⟨o',hr,hc⟩:=z80 (ext:=ext) h hM hB h0 hn0 hn h4 k.v hne hx k.vr
 generalize hB':(B.set 0 (zaa (n+1))).set 4 (.osl (M.length+1) 0 3 (vn+1) none)=B' at hc
 have hK:(zc5 (M.set b (.rich B')) vx).length=M.length:=by rw[zl9];simp
 have hget:∀id,id<M.length->id≠b->id ∉ vx.refs->(zc5 (M.set b (.rich B')) vx++[zbn [x,zaf,zaa (n+1)],o'])[id]?=M[id]?:=fun id h1 h2 h3=>by
  rw[xac (by omega),zl8 h3,xa0 (fun e=>h2 e.symm)]
 refine⟨_,hc,⟨⟨B',?_,by rw[<-hB'];simpa using hB,?_,?_,?_,fun j h1 h2 h3 h4'=>?_⟩,.inr ⟨M.length+1,o',rfl,?_,hr,?_,by omega⟩,zhs k.o fun id hid=>hget id (k.or id hid).1 (k.or id hid).2 fun hv=>k.vo id hv hid,fun id hid=>?_,fun id hid=>?_,fun id hid=>?_⟩,⟨?_,hget⟩,?_⟩
 ·rw[xac (by omega),zl8 (fun hid=>(k.vr b hid).2 rfl)]
  simp[hbl]
 ·rw[<-hB',xa0 (by decide)];simp[hB]
 ·rw[<-hB'];simp[hB]
 ·rw[<-hB',zri B 4 _ _ (by decide) (by decide)];exact h5
 ·rw[<-hB',zri B 4 _ _ (by omega) h3];exact ho j h1 h2 h3 h4'
 ·rw[xah (by omega),hK];simp
 ·have:vc.length=vn*3:=by
   rcases k.v with⟨_,rfl,rfl⟩|⟨_,_,_,_,_,h,_⟩
   ·rfl
   ·exact h
  simp;omega
 ·simp[AV.refs]at hid;subst hid;simp[hK];omega
 ·have:=k.or id hid;simp[hK];omega
 ·simp[AV.refs]at hid;subst hid
  intro hm;have:=(k.or _ hm).1;omega
 ·simp[hK]
 ·simp[hK]
theorem z50(h:code 62=some zla)(k:Bk M b n vx vc vn ox oc on)(hn0:0<=n)(hn:n<=1000000000)(hne:on<=1000000000)(hx:x.cells=some [x]):
  ∃M',callW code ext 62 [.optr b 0,x] M=some (.tup [],M')/\Bk M' b (n+1) vx vc vn (.osl (M.length+1) 0 3 (on+1) none) (oc++[x,zaf,zaa (n+1)]) (on+1)/\Frm M M' b ox/\M.length+1<M'.length:=by
 obtain⟨B,hM,hB,h0,h4,h5,ho⟩:=k.B
 have hbl:b<M.length:=(xaa.1 hM).1
 obtain⟨o',hr,hc⟩:=z8z (ext:=ext) h hM hB h0 hn0 hn h5 k.o hne hx k.or
 generalize hB':(B.set 0 (zaa (n+1))).set 5 (.osl (M.length+1) 0 3 (on+1) none)=B' at hc
 have hK:(zc5 (M.set b (.rich B')) ox).length=M.length:=by rw[zl9];simp
 have hget:∀id,id<M.length->id≠b->id ∉ ox.refs->(zc5 (M.set b (.rich B')) ox++[zbn [x,zaf,zaa (n+1)],o'])[id]?=M[id]?:=fun id h1 h2 h3=>by
  rw[xac (by omega),zl8 h3,xa0 (fun e=>h2 e.symm)]
 refine⟨_,hc,⟨⟨B',?_,by rw[<-hB'];simpa using hB,?_,?_,?_,fun j h1 h2 h3 h4'=>?_⟩,zhs k.v fun id hid=>hget id (k.vr id hid).1 (k.vr id hid).2 fun hv=>k.vo id hid hv,.inr ⟨M.length+1,o',rfl,?_,hr,?_,by omega⟩,fun id hid=>?_,fun id hid=>?_,fun id hid=>?_⟩,⟨?_,hget⟩,?_⟩
 ·rw[xac (by omega),zl8 (fun hid=>(k.or b hid).2 rfl)]
  simp[hbl]
 ·rw[<-hB',xa0 (by decide)];simp[hB]
 ·rw[<-hB',zri B 5 _ _ (by decide) (by decide)];exact h4
 ·rw[<-hB'];simp[hB]
 ·rw[<-hB',zri B 5 _ _ (by omega) h4'];exact ho j h1 h2 h3 h4'
 ·rw[xah (by omega),hK];simp
 ·have:oc.length=on*3:=by
   rcases k.o with⟨_,rfl,rfl⟩|⟨_,_,_,_,_,h,_⟩
   ·rfl
   ·exact h
  simp;omega
 ·have:=k.vr id hid;simp[hK];omega
 ·simp[AV.refs]at hid;subst hid;simp[hK];omega
 ·have:=k.vr id hid
  simp[AV.refs];omega
 ·simp[hK]
 ·simp[hK]
theorem z54(k:Bk M b n vx vc vn ox oc on)(o:AObj):Bk (M++[o]) b n vx vc vn ox oc on:=by
 obtain⟨B,hM,h⟩:=k.B
 have hbl:b<M.length:=(xaa.1 hM).1
 have hg:∀id,id<M.length->(M++[o])[id]?=M[id]?:=fun id hid=>xac hid
 exact⟨⟨B,by rw[hg b hbl];exact hM,h⟩,zhs k.v fun id hid=>hg id (k.vr id hid).1,zhs k.o fun id hid=>hg id (k.or id hid).1,fun id hid=>⟨by have:=(k.vr id hid).1;simp;omega,(k.vr id hid).2⟩,fun id hid=>⟨by have:=(k.or id hid).1;simp;omega,(k.or id hid).2⟩,k.vo⟩
theorem yhh(h:code 14=some zjy){M':Mem}{B':List AV}(hb:M'[b]?=some (.rich B'))(hc:callW code ext 64 [.optr b 0,x] M=some (.tup [],M')):callW code ext 14 [.optr b 0,x] M=some (.tup [],M'):=by
 rw[zad code ext h]
 simp -implicitDefEqProofs [zjy,hc]
theorem z55(h9:code 9=some x9W)(h14:code 14=some zjy)(h64:code 64=some zi3)(k:Bk M b n vx vc vn ox oc on)(hn0:0<=n)(hn:n<=1000000000)(hne:vn<=1000000000){c0 c1 c3 c4:AV}(hx:x.cells=some [x]):
  ∃M',callW code ext 9 [.optr b 0,.agg [c0,c1,x,c3,c4]] M=some (.tup [],M')/\Bk M' b (n+1) (.osl (M.length+2) 0 3 (vn+1) none) (vc++[x,zaf,zaa (n+1)]) (vn+1) ox oc on/\Frm M M' b vx/\M.length+2<M'.length:=by
 obtain⟨M',h1,h2,h3,h4⟩:=z52 (ext:=ext) h64 (z54 k (.rich [c0,c1,x,c3,c4])) hn0 hn hne hx
 obtain⟨B',hB',_⟩:=h2.B
 have h5:=yhh (ext:=ext) h14 hB' h1
 simp only[xao,xat,xa4,xau,xb5,Nat.reduceAdd]at h2 h4
 refine⟨M',?_,h2,⟨by omega,fun id q1 q2 q3=>?_⟩,h4⟩
 ·rw[zad code ext h9]
  simp -implicitDefEqProofs [x9W,h5]
 ·rw[h3.same id (by simp;omega) q2 q3,xac q1]
end
structure RO where
 k:AV
 s:AV
 l:AV
 r:AV
 f:AV
def RO.cells(o:RO):List AV:=[o.k,o.s,o.l,o.r,o.f]
def zay(L:List RO):List AV:=L.flatMap RO.cells
def zgq(n:Int):List AV->List AV
 |[]=>[]
 |x::r=>[x,zaf,zaa (n+1)]++zgq (n+1) r
theorem z0m:∀(l:List AV) (n:Int) (x:AV),zgq n (l++[x])=zgq n l++[x,zaf,zaa (n+l.length+1)]
 |[],n,x=>by simp[zgq]
 |y::r,n,x=>by
  simp only[xby,zgq,z0m r,xat,xbj]
  have:n+1+(r.length:Int)+1=n+((r.length+1:Nat):Int)+1:=by omega
  rw[this]
theorem zh3:∀L:List RO,(zay L).length=L.length*5
 |[]=>rfl
 |o::r=>by
  have:=zh3 r
  unfold zay at *
  simp only[xcp,xao,this,xat]
  simp[RO.cells];omega
theorem z2e:∀(L:List RO) (i:Nat) (o:RO),L[i]?=some o->cut (zay L) (i*5) 5=some o.cells
 |[],i,o,h=>by simp at h
 |p::r,0,o,h=>by
  simp at h;subst h
  simp[zay,RO.cells,cut]
 |p::r,i+1,o,h=>by
  have h1:=z2e r i o (by simpa using h)
  have e:(i+1)*5=p.cells.length+i*5:=by simp[RO.cells];omega
  have hr:zay (p::r)=p.cells++zay r:=rfl
  unfold cut at *
  rw[hr,e,List.drop_append,xco (by omega),xbg,xbn]
  exact h1
theorem yfc(L:List RO)(rest:List AV)(i:Nat)(o:RO)(h:L[i]?=some o):cut (zay L++rest) (i*5) 5=some o.cells:=by
 have h1:=z2e L i o h
 have hi:=(xaa.1 h).1
 have hl:=zh3 L
 unfold cut at *
 dsimp only at *
 rw[List.drop_append_of_le_length (by omega),List.take_append_of_le_length (by rw[List.length_drop];omega)]
 exact h1
theorem zmp{M:Mem}{sid off n:Nat}{o:AObj}{cells c:List AV}(hM:M[sid]?=some o)(h:za3 cells o)(hc:cut cells off n=some c):loadAt M (some n) (.optr sid off)=some (.agg c):=by
 rcases h with rfl|⟨cs,rfl,rfl⟩
 ·simp only[loadAt,hM,zd4,hc,xal]
 ·have:cut (cs.map AV.imm) off n=(cut cs off n).map (·.map AV.imm):=by
   simp only[cut,<-List.map_drop,<-List.map_take,xam]
   split<;>rfl
  rw[this]at hc
  simp only[loadAt,hM,zf8]
  cases hq:cut cs off n with
  |none=>rw[hq]at hc;cases hc
  |some r=>rw[hq]at hc;cases hc;rfl
theorem ziw{cells:List AV}{o:AObj}(h:za3 cells o):o.moved=false:=by
 rcases h with rfl|⟨cs,rfl,_⟩<;>rfl
section
variable {code:Nat->Option zab} {ext:zac} {M:Mem} {b:Nat} {n:Int} {vx ox x:AV} {vc oc:List AV} {vn on:Nat}
structure zxt (M M':Mem) (b:Nat) (vx vx':AV):Prop where
 len:M.length<=M'.length
 same:∀id,id<M.length->id≠b->id ∉ vx.refs->M'[id]?=M[id]?
 new:∀id∈vx'.refs,id∈vx.refs\/M.length<=id
theorem yc4(h9:code 9=some x9W)(h14:code 14=some zjy)(h64:code 64=some zi3)(k:Bk M b n vx vc vn ox oc on){L:List RO}(hL:L.length<=100000000)(hn0:0<=n)(hn:n<=100000000)(hne:vn<=100000000)
  (hl:∀o∈L,o.l.cells=some [o.l]) {sid:Nat} {cap:Option Nat} {o:AObj} (hs:M[sid]?=some o) {rest:List AV} (hr:za3 (zay L++rest) o) (hsb:sid≠b) (hsv:sid ∉ vx.refs) {s:St}
  (hst:s.tidy [1000000,0,1,4]=⟨M.length,[(1000000,.junk),(0,.optr b 0),(1,.osl sid 0 5 L.length cap),(4,zaa 0)],M⟩):
  ∃e s',den code ext (.loop [1000000,0,1,4] zrz) s=some (e,s')/\e≠ .normal/\
   (e=.exit 0/\∃M' vx',s'=⟨M.length,[(0,.optr b 0),(1,.osl sid 0 5 L.length cap),(4,zaa L.length),(8,avb false)],M'⟩/\Bk M' b (n+L.length) vx' (vc++zgq n (L.map (·.l))) (vn+L.length) ox oc on/\zxt M M' b vx vx'):=by
 refine zb1 (fun m s=>∃(i:Nat) (Mi:Mem) (vi:AV),i+m=L.length/\s.tidy [1000000,0,1,4]=⟨M.length,[(1000000,.junk),(0,.optr b 0),(1,.osl sid 0 5 L.length cap),(4,zaa (i:Nat))],Mi⟩/\
  Bk Mi b (n+i) vi (vc++zgq n ((L.take i).map (·.l))) (vn+i) ox oc on/\zxt M Mi b vx vi) _ ?_ L.length _ ⟨0,M,vx,by simp,by simpa using hst,by simpa [zgq]using k,⟨xan _,fun _ _ _ _=>rfl,fun id h=>.inl h⟩⟩
 clear hst
 rintro m s ⟨i,Mi,vi,hi,hst,ki,ti⟩
 rw[hst]
 have hsl:sid<M.length:=(xaa.1 hs).1
 have hsi:Mi[sid]?=some o:=by rw[ti.same sid hsl hsb hsv];exact hs
 by_cases hlt:i<L.length
 ·have hgi:=xab hlt
  have htk:(L.take (i+1)).map (·.l)=(L.take i).map (·.l)++[L[i].l]:=by rw[xbk,hgi,xcu];rfl
  have hld:=zmp hsi hr (yfc L rest i _ hgi)
  have hxl:=hl _ (xa7 hlt)
  generalize L[i]=w at hld hxl htk
  obtain⟨wk,ws,wl,wr,wf⟩:=w
  simp only[RO.cells]at hld hxl htk
  obtain⟨Mn,c1,kn,fn,ln⟩:=z55 (ext:=ext) h9 h14 h64 ki (c0:=wk) (c1:=ws) (c3:=wr) (c4:=wf) (by omega) (by omega) (by omega) hxl
  have hsi':sid ∉ vi.refs:=fun hm=>by
   rcases ti.new sid hm with h|h
   ·exact hsv h
   ·omega
  have hsn:Mn[sid]?=some o:=by rw[fn.same sid (by have:=ti.len;omega) hsb hsi'];exact hsi
  obtain⟨Bn,hbn,_⟩:=kn.B
  have hmo:=ziw hr
  have e1:IntKind.wrap .i64 ((i:Int)+1)=(i:Int)+1:=zap (by omega) (by omega)
  have hlt':(i:Int)<L.length:=by omega
  refine⟨.normal,⟨M.length,[(0,.optr b 0),(1,.osl sid 0 5 L.length cap),(4,zaa ((i:Int)+1))],Mn⟩,?_,.inl ⟨rfl,m-1,by omega,i+1,Mn,.osl (Mi.length+2) 0 3 (vn+i+1) none,by omega,?_,?_,?_⟩⟩
  ·have hmb:(AObj.rich Bn).moved=false:=rfl
   simp -implicitDefEqProofs [zrz,hlt',hld,-loadAt,c1,hbn,hsn,hmo,hmb,-AObj.moved,e1]
  ·simp -implicitDefEqProofs []
  ·rw[htk,z0m,<-List.append_assoc]
   have q1:((L.take i).map (·.l)).length=i:=by rw[xam,xca];omega
   rw[q1]
   have q2:n+((i+1:Nat):Int)=n+i+1:=by omega
   rw[q2]
   exact kn
  ·have:=ti.len
   refine⟨by have:=fn.len;omega,fun id q1 q2 q3=>?_,fun id hid=>.inr ?_⟩
   ·rw[fn.same id (by omega) q2 fun hm=>?_]
    ·exact ti.same id q1 q2 q3
    ·rcases ti.new id hm with h|h
     ·exact q3 h
     ·omega
   ·simp[AV.refs]at hid;omega
 ·have:i=L.length:=by omega
  subst this
  refine⟨.exit 0,⟨M.length,[(0,.optr b 0),(1,.osl sid 0 5 L.length cap),(4,zaa L.length),(8,avb false)],Mi⟩,?_,.inr ⟨by simp,rfl,Mi,vi,rfl,by rw[xb0]at ki;exact ki,ti⟩⟩
  simp -implicitDefEqProofs [zrz]
theorem zx8(h12:code 12=some zo9)(h10:code 10=some zo8)(h62:code 62=some zla)(h9:code 9=some x9W)(h14:code 14=some zjy)(h64:code 64=some zi3)(k:Bk M b n vx vc vn ox oc on){L:List RO}(hL:L.length<=100000000)(hn0:0<=n)(hn:n<=100000000)(hne:vn<=100000000)(hno:on<=100000000)
  (hl:∀o∈L,o.l.cells=some [o.l]) {sid:Nat} {cap:Option Nat} {o:AObj} (hs:M[sid]?=some o) {rest:List AV} (hr:za3 (zay L++rest) o) (hsb:sid≠b) (hsv:sid ∉ vx.refs) (hso:sid ∉ ox.refs):
  ∃M' vx' id',callW code ext 12 [.optr b 0,.osl sid 0 5 L.length cap] M=some (.tup [],M')/\Bk M' b (n+L.length+1) vx' (vc++zgq n (L.map (·.l))) (vn+L.length) (.osl id' 0 3 (on+1) none) (oc++[.osl sid 0 5 L.length cap,zaf,zaa (n+L.length+1)]) (on+1)/\
   (M.length<=M'.length/\M.length<=id'/\(∀id∈vx'.refs,id∈vx.refs\/M.length<=id)/\∀id,id<M.length->id≠b->id ∉ vx.refs->id ∉ ox.refs->M'[id]?=M[id]?):=by
 obtain⟨B,hM,_⟩:=k.B
 have hsl:sid<M.length:=(xaa.1 hs).1
 obtain⟨e,s',h1,_,rfl,M1,v1,rfl,k1,t1⟩:=yc4 (ext:=ext) h9 h14 h64 k hL hn0 hn hne hl (cap:=cap) hs hr hsb hsv (s:=⟨M.length,[(0,.optr b 0),(1,.osl sid 0 5 L.length cap),(4,zaa 0)],M⟩) (by simp -implicitDefEqProofs [])
 obtain⟨M2,c2,k2,f2,l2⟩:=z50 (ext:=ext) h62 k1 (x:=.osl sid 0 5 L.length cap) (by omega) (by omega) (by omega) rfl
 have h3:callW code ext 10 [.optr b 0,.osl sid 0 5 L.length cap] M=some (.tup [],M2):=by
  rw[zad code ext h10]
  simp -implicitDefEqProofs [zo8,h1,c2]
 refine⟨M2,v1,M1.length+1,?_,k2,by have:=t1.len;omega,by have:=t1.len;omega,t1.new,fun id q1 q2 q3 q4=>?_⟩
 ·rw[zad code ext h12]
  simp -implicitDefEqProofs [zo9,h3]
 ·rw[f2.same id (by have:=t1.len;omega) q2 q4]
  exact t1.same id q1 q2 q3
end
theorem yhw:zsl=zcw 2 4 420:=rfl
theorem yhv:zsd=zcw 5 5 414:=rfl
theorem yh3:ztd=zcx 2 16 [(.int .u8 0),(.int .i64 0)] 4 420:=rfl
theorem yh1:zs7=zcx 5 64 [(.int .u8 0),(.string .empty),(.slice none 0 0),(.int .i64 0),(.int .i64 0)] 5 414:=rfl
theorem yim:ztx=zde 2 4 400:=rfl
theorem yij:ztt=zde 5 5 394:=rfl
theorem zrh{β:Type}(A B C D:List β)(h:B.length=D.length){k:Nat}(hk:A.length=k):setAll (A++(B++C)) k D=A++(D++C):=by
 subst hk
 refine xbh fun j=>?_
 rw[zre _ _ _ _ (by simp only[xao];omega)]
 simp only[xcy]
 by_cases h1:j<A.length
 ·rw[if_neg (by omega),if_pos h1,if_pos h1]
 ·by_cases h2:j-A.length<D.length
  ·rw[if_pos (by omega),if_neg h1,if_pos h2]
  ·rw[if_neg (by omega),if_neg h1,if_neg h1,if_neg (by omega),if_neg h2,h]
theorem zjb{β:Type}(l:List β):∀n,zar n l++l=zar (n+1) l
 |0=>by simp[zar]
 |n+1=>by
  have:=zjb l n
  rw[zar,xbj,this];rfl
theorem zlw{β:Type}(l:List β):∀n,(zar n l).length=n*l.length
 |0=>by simp[zar]
 |n+1=>by rw[zar,xao,zlw l n,Nat.add_mul,xc4,Nat.add_comm]
theorem ygc{M:Mem}{id:Nat}{o:AObj}(h:M[id]?=some o):M.set id o=M:=by
 refine xbh fun j=>?_
 by_cases hj:id=j
 ·subst hj
  rw[xbl (xaa.1 h).1,h]
 ·rw[xa0 hj]
theorem zrf:∀(ys l:List IV) (k:Nat),setAll (l.map AV.imm) k (ys.map AV.imm)=(setAll l k ys).map AV.imm
 |[],l,k=>rfl
 |y::ys,l,k=>by simp only[xa1,setAll,<-List.map_set,zrf ys]
theorem z2i{M:Mem}{id off:Nat}{o:AObj}{cells:List AV}{xs:List IV}(hM:M[id]?=some o)(h:za3 cells o)(hl:off+xs.length<=cells.length):
  ∃o',za3 (setAll cells off (xs.map .imm)) o'/\storeAt M (.optr id off) (xs.map .imm)=some (M.set id o'):=by
 rcases h with rfl|⟨cs,rfl,rfl⟩
 ·exact⟨_,.inl rfl,by simp only[storeAt,hM,xam];rw[if_pos hl]⟩
 ·refine⟨.flat (setAll cs off xs) false,.inr ⟨_,rfl,zrf xs cs off⟩,?_⟩
  rw[xam]at hl
  simp only[storeAt,hM,z0q]
  rw[if_pos hl]
def KX(M:Mem)(sz:Nat)(x:AV)(len:Nat)(cells:List AV):Prop:=
 (∃rid c ob,x=.osl rid 0 sz len (some c)/\M[rid]?=some ob/\za3 cells ob/\cells.length=c*sz/\len<=c/\c<=len+1)\/(len=0/\cells=[]/\(x=zaf\/∃row off,x=.imm (.slice row off 0 (some 0))))
structure KE where
 x:AV
 lg:AV
 n:Int
 len:Nat
 cells:List AV
def KE.c3(e:KE):List AV:=[e.x,e.lg,zaa e.n]
def zci(E:List KE):List AV:=E.flatMap KE.c3
def zbx(E:List KE):List Nat:=E.flatMap fun e=>e.x.refs
theorem zzg:∀E:List KE,(zci E).length=E.length*3
 |[]=>rfl
 |e::r=>by
  have:=zzg r
  unfold zci at *
  simp only[xcp,xao,this,xat]
  simp[KE.c3];omega
theorem zqa:∀(E:List KE) (i:Nat) (e:KE),E[i]?=some e->cut (zci E) (i*3) 3=some e.c3
 |[],i,o,h=>by simp at h
 |p::r,0,o,h=>by
  simp at h;subst h
  simp[zci,KE.c3,cut]
 |p::r,i+1,o,h=>by
  have h1:=zqa r i o (by simpa using h)
  have e:(i+1)*3=p.c3.length+i*3:=by simp[KE.c3];omega
  have hr:zci (p::r)=p.c3++zci r:=rfl
  unfold cut at *
  rw[hr,e,List.drop_append,xco (by omega),xbg,xbn]
  exact h1
theorem zvh{M:Mem}{sz len:Nat}{x:AV}{cells:List AV}(h:KX M sz x len cells):lenOf x=some len:=by
 rcases h with⟨rid,c,ob,rfl,_⟩|⟨rfl,_,rfl|⟨row,off,rfl⟩⟩<;>rfl
theorem zfh{M M':Mem}{sz len:Nat}{x:AV}{cells:List AV}(h:KX M sz x len cells)(hs:∀id∈x.refs,M'[id]?=M[id]?):KX M' sz x len cells:=by
 rcases h with⟨rid,c,ob,rfl,ho,hr⟩|h
 ·exact .inl ⟨rid,c,ob,rfl,by rw[hs rid (by simp[AV.refs])];exact ho,hr⟩
 ·exact .inr h
theorem zfg{M:Mem}{sz len:Nat}{x:AV}{cells:List AV}(h:KX M sz x len cells):∀id∈x.refs,id<M.length:=by
 intro id hid
 rcases h with⟨rid,c,ob,rfl,ho,hr⟩|⟨_,_,rfl|⟨row,off,rfl⟩⟩
 ·simp[AV.refs]at hid;subst hid;exact(xaa.1 ho).1
 ·simp[AV.refs]at hid
 ·simp[AV.refs]at hid
section
variable {code:Nat->Option zab} {ext:zac}
theorem z7y{sz f mk:Nat}{n:Int}{ms:List IV}(hmk:∀s,zb0 (callW code ext) s mk [zaa n]=some (.agg (ms.map .imm),s))(hms:ms.length=sz){K b h rid len:Nat}{j:Int}{M:Mem}{lg:AV}{cap:Option Nat}{ob:AObj}{cells:List AV}
  (hh:M[h]?=some (.rich [.osl rid 0 sz len cap,lg,zaa n])) (hrh:rid≠h) (ho:M[rid]?=some ob) (hr:za3 cells ob) (hl:len*sz<=cells.length) (hb:len<=1000000000) {s:St}
  (hst:s.tidy [1000000,0,2,3,4]=⟨K,[(1000000,.junk),(0,.optr b 0),(2,zaa j),(3,.optr h 0),(4,zaa 0)],M⟩):
  ∃e s',den code ext (.loop [1000000,0,2,3,4] (zkj sz f mk)) s=some (e,s')/\e≠ .normal/\
   (e=.exit 2/\∃ob',za3 (zar len (ms.map AV.imm)++cells.drop (len*sz)) ob'/\s'=⟨K,[(0,.optr b 0),(2,zaa j),(3,.optr h 0),(4,zaa len),(25,avb false)],M.set rid ob'⟩):=by
 refine zb1 (fun m s=>∃(k:Nat) (obk:AObj),k+m=len/\za3 (zar k (ms.map AV.imm)++cells.drop (k*sz)) obk/\s.tidy [1000000,0,2,3,4]=⟨K,[(1000000,.junk),(0,.optr b 0),(2,zaa j),(3,.optr h 0),(4,zaa (k:Nat))],M.set rid obk⟩) _ ?_ len _
  ⟨0,ob,by simp,by simpa [zar]using hr,by rw[ygc ho];simpa using hst⟩
 clear hst
 rintro m s ⟨k,obk,hk,hrk,hst⟩
 rw[hst]
 have hrl:rid<M.length:=(xaa.1 ho).1
 have hMh:(M.set rid obk)[h]?=some (.rich [.osl rid 0 sz len cap,lg,zaa n]):=by rw[xa0 hrh];exact hh
 have hMr:(M.set rid obk)[rid]?=some obk:=by simp[hrl]
 have l0:loadAt (M.set rid obk) none (.optr h 0)=some (.osl rid 0 sz len cap):=by simp only[loadAt,hMh];rfl
 have l2:loadAt (M.set rid obk) none (.optr h 2)=some (zaa n):=by simp only[loadAt,hMh];rfl
 by_cases hlt:k<len
 ·have e1:IntKind.wrap .i64 ((k:Int)+1)=(k:Int)+1:=zap (by omega) (by omega)
  have hlt':(k:Int)<len:=by omega
  have hmul:(k+1)*sz<=cells.length:=xci (xb8 _ hlt) hl
  have hks:(k+1)*sz=k*sz+sz:=by rw[Nat.add_mul,xc4]
  have hcl:(zar k (ms.map AV.imm)).length=k*sz:=by rw[zlw,xam,hms]
  obtain⟨o2,hr2,hs2⟩:=z2i (xs:=ms) (off:=k*sz) hMr hrk (by rw[xao,hcl,List.length_drop,hms];omega)
  rw[List.set_set]at hs2
  have hsp:cells.drop (k*sz)=(cells.drop (k*sz)).take sz++cells.drop ((k+1)*sz):=by
   rw[hks,<-List.drop_drop,List.take_append_drop]
  rw[hsp,zrh _ _ _ _ (by rw[xam,xca,List.length_drop,hms];omega) hcl,<-List.append_assoc,zjb]at hr2
  refine⟨.normal,⟨K,[(0,.optr b 0),(2,zaa j),(3,.optr h 0),(4,zaa ((k:Int)+1))],M.set rid o2⟩,?_,.inl ⟨rfl,m-1,by omega,k+1,o2,by omega,hr2,?_⟩⟩
  ·simp -implicitDefEqProofs [zkj,l0,l2,-loadAt,hlt',hmk,-zb0,hms,hs2,-storeAt,e1]
  ·simp -implicitDefEqProofs []
 ·have:k=len:=by omega
  subst this
  refine⟨.exit 2,⟨K,[(0,.optr b 0),(2,zaa j),(3,.optr h 0),(4,zaa k),(25,avb false)],M.set rid obk⟩,?_,.inr ⟨by simp,rfl,obk,hrk,rfl⟩⟩
  simp -implicitDefEqProofs [zkj,l0,-loadAt]
end
section
variable {code:Nat->Option zab} {ext:zac}
theorem yhg(h:code 380=some zj2){iv:IV}{xs:List Val}(hr:zao tVal iv xs):callW code ext 380 [.imm iv] []=some (zaa xs.length,[]):=by
 rw[zad code ext h]
 simp -implicitDefEqProofs [zj2,zaz hr]
def zef(o:Obj):Int:=if (1+o.s.size:Int)<=1048576 then 1+o.s.size+o.l.xs.length else 1+o.s.size
theorem yc0(h:code 380=some zj2)(h':code 338=some zj0)(o:Obj)(hw:tObj.wf o):
  callW code ext 338 [.agg [.imm (.val (.int .u8 o.k)),.imm (.val (.string o.s)),.imm o.l.iv,zaa o.room,zaa o.fn]] []=some (zaa (zef o),[]):=by
 rw[zad code ext h']
 have hs:o.s.size<=140737488355328:=hw.2.1
 have hl:=o.l.ok.2.1
 have e1:IntKind.wrap .i64 (1+(o.s.size:Int))=1+o.s.size:=zap (by omega) (by omega)
 have e2:IntKind.wrap .i64 (1+(o.s.size:Int)+o.l.xs.length)=1+o.s.size+o.l.xs.length:=zap (by omega) (by omega)
 have hv:=yhg (ext:=ext) h o.l.ok
 by_cases hc:(1+o.s.size:Int)<=1048576
 ·simp -implicitDefEqProofs [zj0,e1,e2,hc,hv,zef]
 ·simp -implicitDefEqProofs [zj0,e1,hc,zef]
def zdp:Int->List Obj->Int
 |n,[]=>n
 |n,o::r=>if n<=1048576 then zdp (n+zef o) r else n
theorem zvv(o:Obj)(hw:tObj.wf o):1<=zef o/\zef o<=281474976710658:=by
 have hs:o.s.size<=140737488355328:=hw.2.1
 have hl:=o.l.ok.2.1
 unfold zef
 split<;>omega
theorem yc3(h:code 380=some zj2)(h':code 338=some zj0)(h2:code 339=some zm3){iv:IV}{xs:List Obj}(hr:zao tObj iv xs):callW code ext 339 [.imm iv] []=some (zaa (zdp xs.length xs),[]):=by
 have hlen:=zaz hr
 have hb:=hr.2.1
 have loop:∃e s',den code ext (.loop [0,3,4] zpg) ⟨0,[(0,.imm iv),(3,zaa xs.length),(4,zaa 0)],[]⟩=some (e,s')/\e≠ .normal/\
   (e=.exit 0/\s'.k=0/\s'.mem=[]/\s'.env.get 3=zaa (zdp xs.length xs)):=by
  refine zb1 (fun n s=>∃(i:Nat) (m:Int),i+n=xs.length/\0<=m/\m<=1000000000000000/\zdp xs.length xs=zdp m (xs.drop i)/\s=⟨0,[(0,.imm iv),(3,zaa m),(4,zaa (i:Nat))],[]⟩) _ ?_ xs.length _ ⟨0,xs.length,by simp,by omega,by omega,by simp,rfl⟩
  rintro n _ ⟨i,m,hi,hm0,hm1,hg,rfl⟩
  by_cases hlt:i<xs.length
  ·obtain⟨row,off,cap,rfl,hc,hcut,hget⟩:=zb6 hr (xab hlt)
   have e1:IntKind.wrap .i64 ((i:Int)+1)=(i:Int)+1:=zap (by omega) (by omega)
   rw[xb2 hlt,zdp]at hg
   have hw:=hr.1 _ (xa7 hlt)
   generalize xs[i]=o at hget hg hw
   have hbd:=zvv o hw
   have hs:=yc0 (ext:=ext) h h' o hw
   simp only[tObj]at hget
   by_cases hc2:m<=1048576
   ·rw[if_pos hc2]at hg
    have e2:IntKind.wrap .i64 (m+zef o)=m+zef o:=zap (by omega) (by omega)
    refine⟨.normal,⟨0,[(0,.imm (.slice row off xs.length cap)),(3,zaa (m+zef o)),(4,zaa ((i:Int)+1))],[]⟩,?_,.inl ⟨rfl,n-1,by omega,i+1,_,by omega,by omega,by omega,hg,rfl⟩⟩
    simp -implicitDefEqProofs [zpg,hlt,hget,hc2,hs,e1,e2]
   ·rw[if_neg hc2]at hg
    refine⟨.exit 0,⟨0,[(0,.imm (.slice row off xs.length cap)),(3,zaa m),(4,zaa (i:Int)),(14,avb false)],[]⟩,?_,.inr ⟨by simp,rfl,rfl,rfl,by rw[hg];simp⟩⟩
    simp -implicitDefEqProofs [zpg,hlt,hc2]
  ·have:¬((i:Int)<xs.length):=by omega
   refine⟨.exit 0,⟨0,[(0,.imm iv),(3,zaa m),(4,zaa (i:Int)),(14,avb false)],[]⟩,?_,.inr ⟨by simp,rfl,rfl,rfl,?_⟩⟩
   ·simp -implicitDefEqProofs [zpg,hlen,this]
   ·rw[hg,xco (by omega)];simp[zdp]
 obtain⟨e,s',h1,_,rfl,h3,h4,h5⟩:=loop
 rw[zad code ext h2]
 simp -implicitDefEqProofs [zm3,hlen,h1,h3,h4,h5]
theorem ygj(h:code 380=some zj2)(h':code 338=some zj0)(h2:code 339=some zm3)(h3:code 361=some zpk){iv:IV}{xs:List Obj}(hr:zao tObj iv xs):callW code ext 361 [.imm iv] []=some (zaa (zdp xs.length xs),[]):=by
 rw[zad code ext h3]
 simp -implicitDefEqProofs [zpk,yc3 h h' h2 hr]
end
section
variable {code:Nat->Option zab} {ext:zac}
def zgh:List Obj->Int
 |[]=>0
 |o::r=>o.l.xs.length+zgh r
theorem z3b:∀(l:List Obj) (m:Int),(∀o∈l,tObj.wf o)->0<=m->m<=1000000000000000->m<=zdp m l/\zdp m l<=1000000000000000
 |[],m,_,h0,h1=>⟨Int.le_refl _,h1⟩
 |o::r,m,hw,h0,h1=>by
  have hb:=zvv o (hw o (xbe ..))
  rw[zdp]
  split
  ·have:=z3b r (m+zef o) (fun x hx=>hw x (xa5 _ hx)) (by omega) (by omega)
   omega
  ·omega
def zdq:Val:=⟨0,7777⟩
theorem z3y(h:code 379=some zhl){iv:IV}{xs:List Val}(hr:zao tVal iv xs)(hb:xs.length<=1000000000):
  callW code ext 379 [.imm iv] []=some (.osl 0 0 2 xs.length (some (xs.length+1)),[.flat (tVal.row (xs++[zdq])) false]):=
 yhd tVal zt1 zdq 16 [.int .u8 0,.int .i64 0] (by decide) rfl (by simp[Value.oneCell']) 1 (.int .i64 7777) (by decide) rfl (h.trans rfl) hr (by omega) (by omega)
end
section
variable {code:Nat->Option zab} {ext:zac}
theorem zy0{α:Type}(t:Ty α)(xs ys:List α):cut (t.row (xs++ys)) 0 (xs.length*t.sz)=some (t.row xs):=by
 rw[z2j]
 refine zun ?_ (zbg t xs)
 rw[List.drop_zero,<-zbg t xs,List.take_left]
def zfn{α:Type}(t:Ty α)(sp:α)(xs:List α):IV:=.slice (t.row (xs++[sp])) 0 xs.length (some (xs.length+1))
theorem ygy{α:Type}(t:Ty α)(sp:α){iv:IV}{xs:List α}(h:zao t iv xs):zao t (zfn t sp xs) xs:=
 ⟨h.1,h.2.1,.inr ⟨_,0,_,rfl,fun c hc=>by cases hc;omega,zy0 t xs [sp]⟩⟩
def yg9(l:Sl tVal):Sl tVal:=⟨zfn tVal zdq l.xs,l.xs,ygy tVal zdq l.ok⟩
def zal(o:Obj):Obj:={ o with l:=yg9 o.l }
def zat:Obj:=⟨0,⟨#[115,112,97,114,101]⟩,⟨.val (.slice none 0 0),[],⟨by simp,by simp,.inl ⟨rfl,rfl⟩⟩⟩,0,0⟩
def zgm:Obj:=⟨0,.empty,⟨.val (.slice none 0 0),[],⟨by simp,by simp,.inl ⟨rfl,rfl⟩⟩⟩,0,0⟩
theorem yg1(h:code 379=some zhl)(h':code 372=some zpl)(o:Obj)(hb:o.l.xs.length<=1000000000):
  callW code ext 372 [.agg [.imm (.val (.int .u8 o.k)),.imm (.val (.string o.s)),.imm o.l.iv,zaa o.room,zaa o.fn]] []=
   some (.agg [.imm (.val (.int .u8 o.k)),.imm (.val (.string o.s)),.imm (zfn tVal zdq o.l.xs),zaa o.room,zaa o.fn],[]):=by
 rw[zad code ext h']
 have ht:=z3y (ext:=ext) h o.l.ok hb
 simp -implicitDefEqProofs [zpl,ht,zfn]
end
section
variable {num:Names} {P:Program}
variable {call:zac} {N:Nat} {ops:Array Oper} {xs:List XO} {n:Nat} {s0 sF:St} {S:Nat->St} {sp:Nat->Bool}
structure Box (C0:Cx) (m0:Mem) (D:Cx) (m:Mem) (b:Nat) (es:List (Value×Value)):Prop where
 own0:C0.w.heap.size<=b\/Own C0 m0 b
 lt:b<D.w.heap.size
 row:∃(es':Array MapEntry) (clk:Nat),D.w.heap[b]?=some (.map es' clk)/\es'.size=es.length/\∀(j:Nat) p x,es[j]?=some p->es'[j]?=some x->x.key=p.1/\x.val=p.2
 imm:¬D.I b
 no:¬Own D m b
 one:∀p∈es,p.1.oneCell'=true/\p.2.oneCell'=true
theorem Box.keep{C0 D E:Cx}{m0 m m':Mem}{b k:Nat}{es:List (Value×Value)}(B:Box C0 m0 D m b es)(h:Step num k D m E m'):Box C0 m0 E m' b es:=by
 refine⟨B.own0,xb1 B.lt h.size,?_,fun hI=>?_,fun ho=>?_,B.one⟩
 ·obtain⟨es',clk,h1,h2⟩:=B.row
  exact⟨es',clk,by rw[h.keep b B.lt B.no];exact h1,h2⟩
 ·rcases h.imm' b hI with h1|h1|h1
  ·exact B.imm h1
  ·have:=B.lt;omega
  ·exact B.no h1
 ·rcases h.own b ho with h1|h1
  ·have:=B.lt;omega
  ·exact B.no h1
theorem zq0{n id:Nat}(h:id<n):place (List.range n) id=some id:=zhe _ _ _ List.nodup_range (by simp[h])
end
set_option maxRecDepth 100000
def zk6:zab:=
 ⟨[.cell 2 (some 5)],(.seq (.region [1,2] [o0 1 (.box 5 (.t 0)),
 o0 2 (.alloc [(.int .u8 0),(.string .empty),(.slice none 0 0),(.int .i64 0),(.int .i64 0)])]) (.seq (.region [2] [o5 3 0 1,o4 4 3,o5 5 1 1,o4 6 5,o5 7 2 1,o4 8 7,
 o0 9 (.call .own 379 [.t 8]),o5 10 3 1,o4 11 10,o5 12 4 1,o4 13 12,
 o0 14 (.build [(.int .u8 0),(.string .empty),(.slice none 0 0),(.int .i64 0),(.int .i64 0)] [(0,1,(.t 4)),(1,1,(.t 6)),(2,1,(.t 9)),(3,1,(.t 11)),(4,1,(.t 13))]),
 o2 (.store 5 (.t 2) (.t 14))]) .ret))⟩
def zsp:XCode:=
 (.seq (.seq (.region [0,3,4,12] [o3 9 4,o3 10 0,o8 11 10,
 o0 12 (.bin .lss (.t 9) (.t 11))]) (.cond (.t 12) .skip (.exit 0))) (.seq (.block 1 (.region [0,3,4] [o3 15 3,o3 16 0,o3 17 4,
 o0 18 (.idxA 5 (.t 16) (.t 17)),o6 19 5 18,
 o0 20 (.call .own 372 [.t 19]),
 o0 21 (.buildSlice 5 [(.int .u8 0),(.string .empty),(.slice none 0 0),(.int .i64 0),(.int .i64 0)] 1 [(0,5,(.t 20))]),
 o0 22 (.append 5 64 (.t 15) (.t 21)),o3 3 22])) (.region [0,3,4] [o3 13 4,
 o0 14 (.bin .add (.t 13) (.c (.int .i64 1))),o3 4 14])))
def zpm:zab:=
 ⟨[.tmp 2],(.seq (.region [0] [o0 2 (.mv (.c (.slice none 0 0)))]) (.seq (.region [0,3] [o3 5 0,o8 6 5,
 o0 7 (.bin .add (.t 6) (.c (.int .i64 1))),
 o0 8 (.makeSlice 5 64 [(.int .u8 0),(.string .empty),(.slice none 0 0),(.int .i64 0),(.int .i64 0)] (.c (.int .i64 0)) (.t 7)),o3 3 8]) (.seq (.seq (.region [0,3,4] [o0 4 (.mv (.c (.int .i64 0)))]) (.block 0 (.loop [0,3,4] zsp))) (.seq (.region [2] [o3 23 3,
 o0 24 (.build [(.int .u8 0),(.string .empty),(.slice none 0 0),(.int .i64 0),(.int .i64 0)] [(1,1,(.c (.string ⟨#[115,112,97,114,101]⟩)))]),
 o0 25 (.buildSlice 5 [(.int .u8 0),(.string .empty),(.slice none 0 0),(.int .i64 0),(.int .i64 0)] 1 [(0,5,(.t 24))]),
 o0 26 (.append 5 64 (.t 23) (.t 25)),o3 27 0,o8 28 27,
 o0 29 (.slice 5 (.t 26) none (some (.t 28))),o3 2 29]) .ret))))⟩
theorem zv8(m:Mem):∀(todo:List Nat) (fuel:Nat) (acc:List Nat),todo.length<=fuel->(∀t∈todo,t<m.length/\((m[t]?).getD .dead).refs=[]/\t ∉ acc)->todo.Nodup->reach m fuel todo acc=acc++todo
 |[],fuel,acc,_,_,_=>by cases fuel<;>simp[reach]
 |t::r,0,acc,h,_,_=>by simp at h
 |t::r,fuel+1,acc,h,h1,h2=>by
  obtain⟨a,b,c⟩:=h1 t (xbe ..)
  rw[List.nodup_cons]at h2
  rw[reach,if_neg c,if_pos a,b,xay,zv8 m r fuel (acc++[t]) (by simpa using h) (fun x hx=>?_) h2.2]
  ·simp
  ·obtain⟨d,e,f⟩:=h1 x (xa5 _ hx)
   refine⟨d,e,fun hm=>?_⟩
   rw[xak,xbc]at hm
   rcases hm with hm|rfl
   ·exact f hm
   ·exact h2.1 hx
structure zi8 (o:AObj) (los:List AObj):Prop where
 refs:o.refs=(List.range los.length).map (· +1)
 flat:∀l∈los,∃cs mv,l=.flat cs mv
theorem z2m{o:AObj}{los junk:List AObj}(h:zi8 o los)(hl:los.length<=10000000):order 0 [0] (o::(los++junk))=List.range (los.length+1):=by
 have h1:List.range (los.length+1)=0::(List.range los.length).map (· +1):=by
  rw[List.range_succ_eq_map]
 unfold order
 rw[h1]
 simp only[List.take_zero,Mem.refs,xay,List.range_zero]
 rw[show(1000000000000:Nat)=999999999999+1 from rfl,reach]
 simp only[xb4,if_false,xat,Nat.zero_lt_succ,if_true,xbw,xa2,h.refs,xbg]
 rw[zv8]
 ·rfl
 ·simp;omega
 ·intro t ht
  simp only[xa9,xa6]at ht
  obtain⟨i,hi,rfl⟩:=ht
  refine⟨by simp;omega,?_,by simp⟩
  rw[xbb,xac hi,xab hi]
  obtain⟨cs,mv,e⟩:=h.flat _ (xa7 hi)
  rw[xa2,e];rfl
 ·refine(List.pairwise_map.2 ?_)
  exact List.nodup_range.imp fun h e=>h (by omega)
theorem z2l{o:AObj}{los junk:List AObj}(h:zi8 o los):Mem.pickAll (o::(los++junk)) (List.range (los.length+1))=o::los:=by
 have hp:∀id,id<los.length+1->place (List.range (los.length+1)) id=some id:=fun id hid=>zq0 hid
 unfold Mem.pickAll
 rw[List.range_succ_eq_map,xa1,<-List.range_succ_eq_map]
 simp only[xbw,xa2,xc3]
 congr 1
 ·refine zhd fun id hid=>hp id ?_
  rw[h.refs]at hid
  simp only[xa9,xa6]at hid
  obtain⟨i,hi,rfl⟩:=hid
  omega
 ·refine List.ext_getElem (by simp) fun j h1 h2=>?_
  simp only[List.getElem_map,List.getElem_range,Function.comp,xbb]
  rw[xac h2,xab h2,xa2]
  obtain⟨cs,mv,e⟩:=h.flat _ (xa7 h2)
  rw[e];rfl
theorem ygs{o:AObj}{los junk:List AObj}(h:zi8 o los)(hl:los.length<=10000000)(e:Env)(keep:List Nat)(hka:zvf keep=false)(hr:(e.keep keep).roots=[0])(hren:∀f:Nat->Option Nat,f 0=some 0->(e.keep keep).ren f=e.keep keep):
  St.tidy ⟨0,e,o::(los++junk)⟩ keep=⟨0,e.keep keep,o::los⟩:=by
 unfold St.tidy
 simp only[xat]
 rw[if_neg (by omega),if_neg (by rw[hka];decide),hr,z2m h hl,z2l h,hren _ (zq0 (by omega))]
theorem z04{o:AObj}{los junk:List AObj}(h:zi8 o los)(hl:los.length<=10000000):order 0 [0] (o::(los++junk))=List.range (los.length+1)/\Mem.pickAll (o::(los++junk)) (List.range (los.length+1))=o::los:=
 ⟨z2m h hl,z2l h⟩
def zfm(j:Nat)(o:Obj):RO:=⟨.imm (.val (.int .u8 o.k)),.imm (.val (.string o.s)),.osl j 0 2 o.l.xs.length (some (o.l.xs.length+1)),zaa o.room,zaa o.fn⟩
def twR:Nat->List Obj->List RO
 |_,[]=>[]
 |j,o::r=>zfm j o::twR (j+1) r
def zev:List AV:=[.imm (.val (.int .u8 0)),.imm (.val (.string .empty)),zaf,zaa 0,zaa 0]
def zge:List AV:=[.imm (.val (.int .u8 0)),.imm (.val (.string ⟨#[115,112,97,114,101]⟩)),zaf,zaa 0,zaa 0]
def zcs(o:Obj):AObj:=.flat (tVal.row (o.l.xs++[zdq])) false
theorem zk1:∀(S:List Obj) (j:Nat),(twR j S).length=S.length
 |[],j=>rfl
 |o::r,j=>by simp[twR,zk1 r]
theorem z3o:∀(S:List Obj) (j:Nat) (o:Obj),twR j (S++[o])=twR j S++[zfm (j+S.length) o]
 |[],j,o=>by simp[twR]
 |g::r,j,o=>by
  simp only[xby,twR,z3o r,xat]
  have:j+1+r.length=j+(r.length+1):=by omega
  rw[this]
theorem zwd(L:List RO)(o:RO):zay (L++[o])=zay L++o.cells:=by simp[zay]
theorem zkt:∀(a b:List AV),AV.refs.refsL (a++b)=AV.refs.refsL a++AV.refs.refsL b
 |[],b=>rfl
 |x::a,b=>by simp only[xby,AV.refs.refsL,zkt a b,xbj]
theorem zrv:∀(S:List Obj) (j:Nat),AV.refs.refsL (zay (twR j S))=(List.range S.length).map (· +j)
 |[],j=>rfl
 |f::r,j=>by
  have h:zay (twR j (f::r))=(zfm j f).cells++zay (twR (j+1) r):=rfl
  rw[h,zkt,zrv r]
  rw[xat,List.range_succ_eq_map,xa1,xc3]
  simp only[zfm,RO.cells,AV.refs.refsL,AV.refs,xbg,xay,xby,xau]
  congr 1
  refine xbo fun x _=>?_
  simp only[Function.comp];omega
theorem z4w:∀n,AV.refs.refsL (zar n zev)=[]
 |0=>rfl
 |n+1=>by rw[zar,zkt,z4w n];rfl
theorem zou{cells:List AV}{o:AObj}(h:za3 cells o):o.refs=AV.refs.refsL cells:=by
 rcases h with rfl|⟨cs,rfl,rfl⟩
 ·rfl
 ·have:∀l:List IV,AV.refs.refsL (l.map .imm)=[]:=by
   intro l;induction l with
   |nil=>rfl
   |cons x l ih=>simp only[xa1,AV.refs.refsL,AV.refs,ih,xay]
  rw[this];rfl
theorem yfi{cells:List AV}{o:AObj}(h:za3 cells o)(r:Mem):zh0 (o::r) 0=some cells:=by
 rcases h with rfl|⟨cs,rfl,rfl⟩<;>rfl
theorem z5e(e:Env){o a:AObj}{los:List AObj}{cells one:List AV}(i c:Nat)(ho:za3 cells o)(h1:zdu one=none)(h2:one.length=5)(h3:i+1<=c)(h4:(i+1)*5<=cells.length):
  za0 ⟨0,e,o::(los++[a,.rich one])⟩ 5 64 (.osl 0 0 5 i (some c)) (.osl (los.length+2) 0 5 1 (some 1))=some (.osl 0 0 5 (i+1) (some c),⟨0,e,.rich (setAll cells (i*5) one)::(los++[a,.rich one])⟩):=by
 have hg:(o::(los++[a,.rich one]))[los.length+2]?=some (.rich one):=by
  rw[xbb,xah (by omega)]
  simp
 have hcut:cut one 0 (1*5)=some one:=zda _ (by omega)
 have hel:elems (o::(los++[a,.rich one])) 5 (.osl (los.length+2) 0 5 1 (some 1))=none:=by
  simp only[elems,hg,hcut,h1,xcj]
 have hel2:zbq (o::(los++[a,.rich one])) 5 (.osl (los.length+2) 0 5 1 (some 1))=some (1,one):=by
  simp only[zbq,hg,hcut,xal]
 simp only[za0,za1,hel,zb4,hel2,yfi ho]
 simp[h3,h4]
theorem z5f{o:AObj}{los:List AObj}{cells:List AV}(i c:Nat)(sp:List IV)(ho:za3 cells o)(h2:sp.length=5)(h3:i+1<=c)(h4:(i+1)*5<=cells.length):
  ∃o2,za3 (setAll cells (i*5) (sp.map .imm)) o2/\∀e,za0 ⟨0,e,o::(los++[.flat sp false])⟩ 5 64 (.osl 0 0 5 i (some c)) (.osl (los.length+1) 0 5 1 (some 1))=some (.osl 0 0 5 (i+1) (some c),⟨0,e,o2::(los++[.flat sp false])⟩):=by
 have hg:(o::(los++[.flat sp false]))[los.length+1]?=some (.flat sp false):=by
  rw[xbb,xah (by omega)]
  simp
 have hcut:cut sp 0 (1*5)=some sp:=zda _ (by omega)
 have hel:elems (o::(los++[.flat sp false])) 5 (.osl (los.length+1) 0 5 1 (some 1))=some (1,sp):=by
  simp only[elems,hg,hcut,xal]
 have hel2:zbq (o::(los++[.flat sp false])) 5 (.osl (los.length+1) 0 5 1 (some 1))=some (1,sp.map .imm):=by
  simp only[zbq,hg,hcut,xal]
 rcases ho with rfl|⟨cs,rfl,rfl⟩
 ·refine⟨_,.inl rfl,fun e=>?_⟩
  simp only[za0,za1,hel,xbw,if_true,zb4,hel2,zh0]
  simp[h3,h4]
 ·refine⟨.flat (setAll cs (i*5) sp) false,.inr ⟨_,rfl,zrf sp cs _⟩,fun e=>?_⟩
  rw[xam]at h4
  simp only[za0,za1,hel,xbw,if_true]
  simp[h3,h4]
theorem yfk{o:AObj}{S:List Obj}{n:Nat}(h:za3 (zay (twR 1 S)++zar n zev) o):zi8 o (S.map zcs):=by
 refine⟨?_,fun l hl=>?_⟩
 ·rw[zou h,zkt,zrv,z4w,xay,xam]
 ·obtain⟨f,_,rfl⟩:=xa9.1 hl
  exact⟨_,_,rfl⟩
section
variable {code:Nat->Option zab} {ext:zac}
theorem yg0(h:code 379=some zhl)(h':code 372=some zk6)(o:Obj)(hb:o.l.xs.length<=1000000000):
  callW code ext 372 [.agg [.imm (.val (.int .u8 o.k)),.imm (.val (.string o.s)),.imm o.l.iv,zaa o.room,zaa o.fn]] []=
   some (.agg (zfm 0 o).cells,[zcs o]):=by
 rw[zad code ext h']
 have ht:=z3y (ext:=ext) h o.l.ok hb
 simp -implicitDefEqProofs [zk6,ht,zfm,RO.cells,zcs]
theorem yc2 (h:code 379=some zhl) (h':code 372=some zk6) {iv:IV} {xs:List Obj} (hr:zao tObj iv xs) (hl:xs.length<=1048576) (hs:∀o∈xs,o.l.xs.length<=1000000):
  ∃e s',den code ext (.loop [0,3,4] zsp) ⟨0,[(0,.imm iv),(3,.osl 0 0 5 0 (some (xs.length+1))),(4,zaa 0)],[.flat (zar (xs.length+1) [.val (.int .u8 0),.val (.string .empty),.val (.slice none 0 0),.val (.int .i64 0),.val (.int .i64 0)]) false]⟩=some (e,s')/\e≠ .normal/\
   (e=.exit 0/\∃o,za3 (zay (twR 1 xs)++zar 1 zev) o/\s'=⟨0,[(0,.imm iv),(3,.osl 0 0 5 xs.length (some (xs.length+1))),(4,zaa xs.length),(12,avb false)],o::xs.map zcs⟩):=by
 have hlen:=zaz hr
 have hcm:∀n,(zar n zev)=(zar n [IV.val (.int .u8 0),.val (.string .empty),.val (.slice none 0 0),.val (.int .i64 0),.val (.int .i64 0)]).map .imm:=by
  intro n;induction n with
  |zero=>rfl
  |succ n ih=>rw[zar,zar,xcu,<-ih];rfl
 refine zb1 (fun n s=>∃i o,i+n=xs.length/\za3 (zay (twR 1 (xs.take i))++zar (n+1) zev) o/\s.tidy [0,3,4]=⟨0,[(0,.imm iv),(3,.osl 0 0 5 i (some (xs.length+1))),(4,zaa (i:Nat))],o::(xs.take i).map zcs⟩) _ ?_ xs.length _
  ⟨0,.flat (zar (xs.length+1) [.val (.int .u8 0),.val (.string .empty),.val (.slice none 0 0),.val (.int .i64 0),.val (.int .i64 0)]) false,by simp,.inr ⟨_,rfl,by rw[hcm];rfl⟩,by simp -implicitDefEqProofs []⟩
 rintro n s ⟨i,o,hi,ho,hst⟩
 rw[hst]
 by_cases hlt:i<xs.length
 ·have hsm:=hs _ (xa7 hlt)
  obtain⟨row,off,cap,rfl,hc,hcut,hget⟩:=zb6 hr (xab hlt)
  have e1:IntKind.wrap .i64 ((i:Int)+1)=(i:Int)+1:=zap (by omega) (by omega)
  obtain⟨m,rfl⟩:∃m,n=m+1:=⟨n-1,by omega⟩
  have hlt':(i:Int)<xs.length:=by omega
  have htk:xs.take (i+1)=xs.take i++[xs[i]]:=by rw[xbk,xab hlt];rfl
  have hti:(xs.take i).length=i:=by rw[xca];omega
  generalize xs[i]=f at hget htk hsm
  generalize hF:xs.take i=F at ho htk hti hst ⊢
  simp only[tObj]at hget
  have ht:=yg0 (ext:=ext) h h' f (by omega)
  have hlos:(F.map zcs).length=i:=by simp[hti]
  have hap:=fun e=>z5e e (a:=zcs f) (los:=F.map zcs) (one:=(zfm (i+1) f).cells) i (xs.length+1) ho rfl rfl (by omega) (by simp only[xao,zh3,zk1,zlw,hti];simp[zev];omega)
  have hset:setAll (zay (twR 1 F)++zar (m+1+1) zev) (i*5) (zfm (i+1) f).cells=zay (twR 1 (F++[f]))++zar (m+1) zev:=by
   rw[zar,zrh _ zev _ (zfm (i+1) f).cells (by simp[zev,RO.cells]) (by rw[zh3,zk1,hti]),z3o,hti,zwd,Nat.add_comm 1 i,xbj]
  rw[hset,hlos]at hap
  have hrows:zi8 (.rich (zay (twR 1 (F++[f]))++zar (m+1) zev)) ((F++[f]).map zcs):=yfk (n:=m+1) (.inl rfl)
  refine⟨.normal,⟨0,[(0,.imm (.slice row off xs.length cap)),(3,.osl 0 0 5 (i+1) (some (xs.length+1))),(4,zaa ((i:Int)+1))],.rich (zay (twR 1 (F++[f]))++zar (m+1) zev)::(((F++[f]).map zcs)++[.rich (zfm (i+1) f).cells])⟩,?_,.inl ⟨rfl,m,by omega,i+1,.rich (zay (twR 1 (F++[f]))++zar (m+1) zev),by omega,?_,?_⟩⟩
  rotate_left
  ·rw[htk];exact .inl rfl
  ·rw[ygs hrows (by simp;omega) _ _ rfl (by simp) (fun f hf=>by simp[hf]),htk]
   simp
  simp only[zfm,RO.cells,zcs]at hap ht ⊢
  simp -implicitDefEqProofs [zsp,hlt',hget,e1,ht,hap,hlos,zbn,zcs]
 ·have:i=xs.length:=by omega
  subst this
  have:n=0:=by omega
  subst this
  rw[xb0]at ho ⊢
  refine⟨.exit 0,⟨0,[(0,.imm iv),(3,.osl 0 0 5 xs.length (some (xs.length+1))),(4,zaa xs.length),(12,avb false)],o::xs.map zcs⟩,?_,.inr ⟨by simp,rfl,o,ho,rfl⟩⟩
  simp -implicitDefEqProofs [zsp,hlen]
theorem z90(l:List AObj):l.map (AObj.ren fun i=>some i)=l:=by
 induction l with
 |nil=>rfl
 |cons o l ih=>rw[xa1,ih];congr 1;exact zmh o
theorem ygv (h:code 379=some zhl) (h':code 372=some zk6) (h2:code 373=some zpm) {iv:IV} {xs:List Obj} (hr:zao tObj iv xs) (hl:xs.length<=1048576) (hs:∀o∈xs,o.l.xs.length<=1000000):
  ∃o,za3 (zay (twR 1 xs)++zge) o/\callW code ext 373 [.imm iv] []=some (.osl 0 0 5 xs.length (some (xs.length+1)),o::xs.map zcs):=by
 have hlen:=zaz hr
 obtain⟨e,s',h1,_,rfl,o,ho,rfl⟩:=yc2 (ext:=ext) h h' hr hl hs
 obtain⟨o2,ho2,hap⟩:=z5f (los:=xs.map zcs) xs.length (xs.length+1) [.val (.int .u8 0),.val (.string ⟨#[115,112,97,114,101]⟩),.val (.slice none 0 0),.val (.int .i64 0),.val (.int .i64 0)] ho rfl (by omega) (by simp only[xao,zh3,zk1,zlw];simp[zev];omega)
 have hset:setAll (zay (twR 1 xs)++zar 1 zev) (xs.length*5) zge=zay (twR 1 xs)++zge:=by
  rw[zar,zar,zrh _ zev _ zge (by simp[zev,zge]) (by rw[zh3,zk1]),xay]
 have hsp:List.map AV.imm [IV.val (.int .u8 0),.val (.string ⟨#[115,112,97,114,101]⟩),.val (.slice none 0 0),.val (.int .i64 0),.val (.int .i64 0)]=zge:=rfl
 rw[hsp,hset]at ho2
 rw[xam]at hap
 have hrows:zi8 o2 (xs.map zcs):=by
  refine⟨?_,fun l hl=>?_⟩
  ·rw[zou ho2,zkt,zrv,xam];simp[zge,AV.refs.refsL,AV.refs]
  ·obtain⟨f,_,rfl⟩:=xa9.1 hl
   exact⟨_,_,rfl⟩
 obtain⟨hord,hpick⟩:=z04 (junk:=[.flat [.val (.int .u8 0),.val (.string ⟨#[115,112,97,114,101]⟩),.val (.slice none 0 0),.val (.int .i64 0),.val (.int .i64 0)] false]) hrows (by simp;omega)
 rw[xam]at hord hpick
 have hplace:place (List.range (xs.length+1)) 0=some 0:=zq0 (by omega)
 have e1:IntKind.wrap .i64 ((xs.length:Int)+1)=(xs.length:Int)+1:=zap (by omega) (by omega)
 have e2:(0:Int)<=(xs.length:Int)+1:=by omega
 have e3:(64:Int)*((xs.length:Int)+1)<=281474976710656:=by omega
 have e4:(xs.length:Int)+1<=9223372036854775807:=by omega
 have e6:(xs.length:Int)<=(xs.length:Int)+1:=by omega
 have e5:((xs.length:Int)+1).toNat=xs.length+1:=by omega
 refine⟨o2,ho2,?_⟩
 rw[zad code ext h2]
 simp -implicitDefEqProofs [zpm,hlen,e1,e2,e3,e4,e5,e6,h1,hap,zf6,zbn,hord,hpick,hplace,-order,-reach,-Mem.pickAll,-List.range_succ]
theorem ygw (h:code 379=some zhl) (h':code 372=some zk6) (h2:code 373=some zpm) (h3:code 377=some zk7) {iv:IV} {xs:List Obj} (hr:zao tObj iv xs) (hl:xs.length<=1048576) (hs:∀o∈xs,o.l.xs.length<=1000000):
  ∃o,za3 (zay (twR 1 xs)++zge) o/\callW code ext 377 [.imm iv] []=some (.osl 0 0 5 xs.length (some (xs.length+1)),o::xs.map zcs):=by
 obtain⟨o,ho,h1⟩:=ygv (ext:=ext) h h' h2 hr hl hs
 have hrows:zi8 o (xs.map zcs):=by
  refine⟨?_,fun l hl=>?_⟩
  ·rw[zou ho,zkt,zrv,xam];simp[zge,AV.refs.refsL,AV.refs]
  ·obtain⟨f,_,rfl⟩:=xa9.1 hl
   exact⟨_,_,rfl⟩
 obtain⟨hord,hpick⟩:=z04 (junk:=[]) hrows (by simp;omega)
 rw[xam,xay]at hord hpick
 have hplace:place (List.range (xs.length+1)) 0=some 0:=zq0 (by omega)
 have hmap:=z90 (xs.map zcs)
 have ho2:AObj.ren (fun i=>some i) o=o:=zmh o
 refine⟨o,ho,?_⟩
 rw[zad code ext h3]
 simp -implicitDefEqProofs [zk7,h1,hord,hpick,hplace,hmap,ho2,-order,-reach,-Mem.pickAll,-List.range_succ,-List.map_map,-AObj.ren]
end
end Go.EX

