import Derived.Test.YtjdfihnmpmckjaaGreatDoorK1
import Derived.Test.YtjdfihnmpmckjaaGreatDoorK8
import Derived.Test.YtjdfihnmpmckjaaGreatDoorK9
import Derived.Test.YtjdfihnmpmckjaaGreatDoorK5
namespace Go.EX
def zku(sz:Nat)(f:Nat)(mk:Nat):XCode:=
 (.seq (.seq (.region [0,2,3,4,25] [⟨(some 21),.mv (.t 4),none⟩,
  ⟨(some 22),.fieldA 0 (.t 3),none⟩,
  ⟨(some 23),.load none (.t 22),none⟩,
  ⟨(some 24),.len (.t 23),none⟩,
  ⟨(some 25),.bin .lss (.t 21) (.t 24),none⟩])
 (.cond (.t 25)
  .skip
  (.exit 2)))
 (.seq (.block 3 (.region [0,2,3,4] [⟨(some 28),.fieldA 0 (.t 3),none⟩,
  ⟨(some 29),.load none (.t 28),none⟩,
  ⟨(some 30),.mv (.t 4),none⟩,
  ⟨(some 31),.fieldA 2 (.t 3),none⟩,
  ⟨(some 32),.load none (.t 31),none⟩,
  ⟨(some 33),.call .view mk [(.t 32)],none⟩,
  ⟨(some 34),.idxA sz (.t 29) (.t 30),none⟩,
  ⟨none,.store sz (.t 34) (.t 33),none⟩]))
 (.region [0,2,3,4] [⟨(some 26),.mv (.t 4),none⟩,
  ⟨(some 27),.bin .add (.t 26) (.c (.int .i64 1)),none⟩,
  ⟨(some 4),.mv (.t 27),none⟩])))
def zoj(sz:Nat)(f:Nat)(mk:Nat):XCode:=
 (.seq (.seq (.region [0,2,11] [⟨(some 5),.mv (.t 2),none⟩,
  ⟨(some 6),.mv (.t 0),none⟩,
  ⟨(some 7),.nilCheck (.t 6),none⟩,
  ⟨(some 8),.fieldA f (.t 7),none⟩,
  ⟨(some 9),.load none (.t 8),none⟩,
  ⟨(some 10),.len (.t 9),none⟩,
  ⟨(some 11),.bin .lss (.t 5) (.t 10),none⟩])
 (.cond (.t 11)
  .skip
  (.exit 0)))
 (.seq (.block 1 (.seq (.region [0,2,3] [⟨(some 14),.mv (.t 0),none⟩,
  ⟨(some 15),.nilCheck (.t 14),none⟩,
  ⟨(some 16),.fieldA f (.t 15),none⟩,
  ⟨(some 17),.load none (.t 16),none⟩,
  ⟨(some 18),.mv (.t 2),none⟩,
  ⟨(some 19),.idxA 3 (.t 17) (.t 18),none⟩,
  ⟨(some 20),.load (some 3) (.t 19),none⟩,
  ⟨(some 3),.alloc [(.slice none 0 0),(.slice none 0 0),(.int .i64 0)],none⟩,
  ⟨none,.store 3 (.t 3) (.t 20),none⟩])
 (.seq (.region [0,2,3,4] [⟨(some 4),.mv (.c (.int .i64 0)),none⟩])
 (.block 2 (.loop [1000000,0,2,3,4] (zku sz f mk))))))
 (.region [0,2] [⟨(some 12),.mv (.t 2),none⟩,
  ⟨(some 13),.bin .add (.t 12) (.c (.int .i64 1)),none⟩,
  ⟨(some 2),.mv (.t 13),none⟩])))
def zct(sz:Nat)(f:Nat)(mk:Nat):zab:=⟨[.whole],
 (.seq (.region [0,2] [⟨(some 2),.mv (.c (.int .i64 0)),none⟩])
 (.block 0 (.loop [1000000,0,2] (zoj sz f mk))))⟩
def zre(sz:Nat)(by_:Nat)(zs:List Value)(f:Nat)(mk:Nat):XCode:=
 (.seq (.seq (.region [0,2,3,4,5,25] [⟨(some 24),.mv (.t 5),none⟩,
  ⟨(some 25),.bin .lss (.t 24) (.c (.int .i64 40)),none⟩])
 (.cond (.t 25)
  .skip
  (.exit 2)))
 (.seq (.block 3 (.region [0,2,3,4,5] [⟨(some 28),.mv (.t 4),none⟩,
  ⟨(some 29),.fieldA 2 (.t 3),none⟩,
  ⟨(some 30),.load none (.t 29),none⟩,
  ⟨(some 31),.call .view mk [(.t 30)],none⟩,
  ⟨(some 32),.buildSlice sz zs 1 [(0,sz,(.t 31))],none⟩,
  ⟨(some 33),.appendN sz by_ (.t 28) (.t 32),none⟩,
  ⟨(some 4),.mv (.t 33),none⟩]))
 (.region [0,2,3,4,5] [⟨(some 26),.mv (.t 5),none⟩,
  ⟨(some 27),.bin .add (.t 26) (.c (.int .i64 1)),none⟩,
  ⟨(some 5),.mv (.t 27),none⟩])))
def zom(sz:Nat)(by_:Nat)(zs:List Value)(f:Nat)(mk:Nat):XCode:=
 (.seq (.seq (.region [0,2,12] [⟨(some 6),.mv (.t 2),none⟩,
  ⟨(some 7),.mv (.t 0),none⟩,
  ⟨(some 8),.nilCheck (.t 7),none⟩,
  ⟨(some 9),.fieldA f (.t 8),none⟩,
  ⟨(some 10),.load none (.t 9),none⟩,
  ⟨(some 11),.len (.t 10),none⟩,
  ⟨(some 12),.bin .lss (.t 6) (.t 11),none⟩])
 (.cond (.t 12)
  .skip
  (.exit 0)))
 (.seq (.block 1 (.seq (.region [0,2,3] [⟨(some 15),.mv (.t 0),none⟩,
  ⟨(some 16),.nilCheck (.t 15),none⟩,
  ⟨(some 17),.fieldA f (.t 16),none⟩,
  ⟨(some 18),.load none (.t 17),none⟩,
  ⟨(some 19),.mv (.t 2),none⟩,
  ⟨(some 20),.idxA 3 (.t 18) (.t 19),none⟩,
  ⟨(some 21),.load (some 3) (.t 20),none⟩,
  ⟨(some 3),.alloc [(.slice none 0 0),(.slice none 0 0),(.int .i64 0)],none⟩,
  ⟨none,.store 3 (.t 3) (.t 21),none⟩])
 (.seq (.region [0,2,3,4] [⟨(some 22),.fieldA 0 (.t 3),none⟩,
  ⟨(some 23),.load none (.t 22),none⟩,
  ⟨(some 4),.mv (.t 23),none⟩])
 (.seq (.seq (.region [0,2,3,4,5] [⟨(some 5),.mv (.c (.int .i64 0)),none⟩])
 (.block 2 (.loop [1000000,0,2,3,4,5] (zre sz by_ zs f mk))))
 (.region [0,2] [⟨(some 34),.mv (.t 0),none⟩,
  ⟨(some 35),.nilCheck (.t 34),none⟩,
  ⟨(some 36),.fieldA f (.t 35),none⟩,
  ⟨(some 37),.load none (.t 36),none⟩,
  ⟨(some 38),.mv (.t 2),none⟩,
  ⟨(some 39),.mv (.t 4),none⟩,
  ⟨(some 40),.idxA 3 (.t 37) (.t 38),none⟩,
  ⟨(some 41),.fieldA 1 (.t 40),none⟩,
  ⟨none,.store 1 (.t 41) (.t 39),none⟩])))))
 (.region [0,2] [⟨(some 13),.mv (.t 2),none⟩,
  ⟨(some 14),.bin .add (.t 13) (.c (.int .i64 1)),none⟩,
  ⟨(some 2),.mv (.t 14),none⟩])))
def zcu(sz:Nat)(by_:Nat)(zs:List Value)(f:Nat)(mk:Nat):zab:=⟨[.whole],
 (.seq (.region [0,2] [⟨(some 2),.mv (.c (.int .i64 0)),none⟩])
 (.block 0 (.loop [1000000,0,2] (zom sz by_ zs f mk))))⟩
def zor(sz:Nat)(f:Nat)(isn:Nat):XCode:=
 (.seq (.seq (.region [0,3,4,5,34] [⟨(some 30),.mv (.t 5),none⟩,
  ⟨(some 31),.fieldA 1 (.t 4),none⟩,
  ⟨(some 32),.load none (.t 31),none⟩,
  ⟨(some 33),.len (.t 32),none⟩,
  ⟨(some 34),.bin .lss (.t 30) (.t 33),none⟩])
 (.cond (.t 34)
  .skip
  (.exit 2)))
 (.seq (.block 3 (.seq (.region [0,3,4,5,63] [⟨(some 37),.fieldA 1 (.t 4),none⟩,
  ⟨(some 38),.load none (.t 37),none⟩,
  ⟨(some 39),.mv (.t 5),none⟩,
  ⟨(some 40),.idxA sz (.t 38) (.t 39),none⟩,
  ⟨(some 41),.load (some sz) (.t 40),none⟩,
  ⟨(some 42),.fieldA 2 (.t 4),none⟩,
  ⟨(some 43),.load none (.t 42),none⟩,
  ⟨(some 44),.call .view isn [(.t 41),(.t 43)],none⟩,
  ⟨(some 45),.un .not (.t 44),none⟩,
  ⟨(some 46),.mv (.t 45),none⟩,
  ⟨(some 47),.mv (.t 5),some (46,false)⟩,
  ⟨(some 48),.fieldA 0 (.t 4),some (46,false)⟩,
  ⟨(some 49),.load none (.t 48),some (46,false)⟩,
  ⟨(some 50),.len (.t 49),some (46,false)⟩,
  ⟨(some 51),.bin .lss (.t 47) (.t 50),some (46,false)⟩,
  ⟨(some 52),.mv (.t 51),some (46,false)⟩,
  ⟨(some 53),.fieldA 0 (.t 4),some (52,true)⟩,
  ⟨(some 54),.load none (.t 53),some (52,true)⟩,
  ⟨(some 55),.mv (.t 5),some (52,true)⟩,
  ⟨(some 56),.idxA sz (.t 54) (.t 55),some (52,true)⟩,
  ⟨(some 57),.load (some sz) (.t 56),some (52,true)⟩,
  ⟨(some 58),.fieldA 2 (.t 4),some (52,true)⟩,
  ⟨(some 59),.load none (.t 58),some (52,true)⟩,
  ⟨(some 60),.call .view isn [(.t 57),(.t 59)],some (52,true)⟩,
  ⟨(some 61),.un .not (.t 60),some (52,true)⟩,
  ⟨(some 62),.pick (.t 52) (.t 61) (.c (.bool false)),some (46,false)⟩,
  ⟨(some 63),.pick (.t 46) (.c (.bool true)) (.t 62),none⟩])
 (.cond (.t 63)
  (.seq (.region [2] [⟨(some 2),.mv (.c (.bool false)),none⟩])
  .ret)
  .skip)))
 (.region [0,3,4,5] [⟨(some 35),.mv (.t 5),none⟩,
  ⟨(some 36),.bin .add (.t 35) (.c (.int .i64 1)),none⟩,
  ⟨(some 5),.mv (.t 36),none⟩])))
def zos(sz:Nat)(f:Nat)(isn:Nat):XCode:=
 (.seq (.seq (.region [0,3,12] [⟨(some 6),.mv (.t 3),none⟩,
  ⟨(some 7),.mv (.t 0),none⟩,
  ⟨(some 8),.nilCheck (.t 7),none⟩,
  ⟨(some 9),.fieldA f (.t 8),none⟩,
  ⟨(some 10),.load none (.t 9),none⟩,
  ⟨(some 11),.len (.t 10),none⟩,
  ⟨(some 12),.bin .lss (.t 6) (.t 11),none⟩])
 (.cond (.t 12)
  .skip
  (.exit 0)))
 (.seq (.block 1 (.seq (.region [0,3,4] [⟨(some 15),.mv (.t 0),none⟩,
  ⟨(some 16),.nilCheck (.t 15),none⟩,
  ⟨(some 17),.fieldA f (.t 16),none⟩,
  ⟨(some 18),.load none (.t 17),none⟩,
  ⟨(some 19),.mv (.t 3),none⟩,
  ⟨(some 20),.idxA 3 (.t 18) (.t 19),none⟩,
  ⟨(some 21),.load (some 3) (.t 20),none⟩,
  ⟨(some 4),.alloc [(.slice none 0 0),(.slice none 0 0),(.int .i64 0)],none⟩,
  ⟨none,.store 3 (.t 4) (.t 21),none⟩])
 (.seq (.seq (.region [0,3,4,29] [⟨(some 22),.fieldA 1 (.t 4),none⟩,
  ⟨(some 23),.load none (.t 22),none⟩,
  ⟨(some 24),.len (.t 23),none⟩,
  ⟨(some 25),.fieldA 0 (.t 4),none⟩,
  ⟨(some 26),.load none (.t 25),none⟩,
  ⟨(some 27),.len (.t 26),none⟩,
  ⟨(some 28),.bin .add (.t 27) (.c (.int .i64 40)),none⟩,
  ⟨(some 29),.bin .neq (.t 24) (.t 28),none⟩])
 (.cond (.t 29)
  (.seq (.region [2] [⟨(some 2),.mv (.c (.bool false)),none⟩])
  .ret)
  .skip))
 (.seq (.region [0,3,4,5] [⟨(some 5),.mv (.c (.int .i64 0)),none⟩])
 (.block 2 (.loop [1000000,0,3,4,5] (zor sz f isn)))))))
 (.region [0,3] [⟨(some 13),.mv (.t 3),none⟩,
  ⟨(some 14),.bin .add (.t 13) (.c (.int .i64 1)),none⟩,
  ⟨(some 3),.mv (.t 14),none⟩])))
def zc8(sz:Nat)(f:Nat)(isn:Nat):zab:=⟨[.whole,.tmp 2],
 (.seq (.region [0] [⟨(some 2),.mv (.c (.bool false)),none⟩])
 (.seq (.seq (.region [0,3] [⟨(some 3),.mv (.c (.int .i64 0)),none⟩])
 (.block 0 (.loop [1000000,0,3] (zos sz f isn))))
 (.seq (.region [2] [⟨(some 2),.mv (.c (.bool true)),none⟩])
 .ret)))⟩
def yi3:zab:=
 ⟨[.whole,.tmp 4],(.seq (.region [0,1] [o0 4 (.mv (.c (.bool false)))]) (.seq (.region [0,1,5] [o0 5 (.alloc [(.int .i64 0),(.slice none 0 0),(.slice none 0 0),(.slice none 0 0),(.slice none 0 0),(.slice none 0 0),(.slice none 0 0),(.slice none 0 0),(.slice none 0 0),(.slice none 0 0),(.slice none 0 0),(.slice none 0 0),(.slice none 0 0),(.slice none 0 0),(.slice none 0 0),(.slice none 0 0),(.slice none 0 0),(.slice none 0 0),(.slice none 0 0),(.slice none 0 0),(.slice none 0 0)])]) (.seq (.region [1,5] [o3 6 0,
 o0 7 (.call .whole 12 [(.t 5),(.t 6)])]) (.seq (.region [5] [o3 8 1,
 o0 9 (.call .whole 12 [(.t 5),(.t 8)])]) (.seq (.region [4] [o0 10 (.call .whole 1 [.t 5]),o3 4 10]) .ret)))))⟩
def zp5:zab:=
 ⟨[.whole],(.region [] [o3 4 0,o3 5 1,
 o0 6 (.call .whole 10 [(.t 4),(.t 5)])])⟩
def zsv:XCode:=
 (.seq (.seq (.region [0,1,4,8] [o3 5 4,o3 6 1,o8 7 6,
 o0 8 (.bin .lss (.t 5) (.t 7))]) (.cond (.t 8) .skip (.exit 0))) (.seq (.block 1 (.region [0,1,4] [o3 11 0,o3 12 1,o3 13 4,
 o0 14 (.idxA 5 (.t 12) (.t 13)),o6 15 5 14,
 o0 16 (.call .whole 9 [(.t 11),(.t 15)])])) (.region [0,1,4] [o3 9 4,
 o0 10 (.bin .add (.t 9) (.c (.int .i64 1))),o3 4 10])))
def zp4:zab:=
 ⟨[.whole],(.seq (.seq (.region [0,1,4] [o0 4 (.mv (.c (.int .i64 0)))]) (.block 0 (.loop [1000000,0,1,4] zsv))) (.region [] [o3 17 0,o3 18 1,
 o0 19 (.call .whole 62 [(.t 17),(.t 18)])]))⟩
def x9W:zab:=
 ⟨[.whole],(.seq (.region [0,3] [o0 3 (.box 5 (.t 1))]) (.region [] [o3 4 0,o5 5 2 3,o4 6 5,
 o0 7 (.call .whole 14 [(.t 4),(.t 6)])]))⟩
def zj1:zab:=
 ⟨[.whole],(.region [] [o3 4 0,o3 5 1,
 o0 6 (.call .whole 64 [(.t 4),(.t 5)])])⟩
@[simp] def z30(n0:Nat):zab:=
 ⟨[.whole],(.seq (.region [0,1] [o3 4 0,o7 5 4,o5 6 0 5,o4 7 6,o0 8 (.bin .add (.t 7) (.c (.int .i64 1))),o7 9 4,o5 10 0 9,o2 (.store 1 (.t 10) (.t 8))]) (.region [] [o3 11 0,o3 12 0,o7 13 12,o5 14 n0 13,o4 15 14,o3 16 1,o3 17 0,o7 18 17,o5 19 0 18,o4 20 19,o0 21 (.build [(.slice none 0 0),(.slice none 0 0),(.int .i64 0)] [(0,1,(.t 16)),(2,1,(.t 20))]),o0 22 (.buildSlice 3 [(.slice none 0 0),(.slice none 0 0),(.int .i64 0)] 1 [(0,3,(.t 21))]),o0 23 (.append 3 56 (.t 15) (.t 22)),o7 24 11,o5 25 n0 24,o2 (.store 1 (.t 25) (.t 23))]))⟩
def zi9:zab:=
 z30 4
def zln:zab:=
 z30 5
def x1W:zab:=
 ⟨[.whole,.tmp 2],(.seq (.region [0] [o0 2 (.mv (.c (.bool false)))]) (.seq (.region [0] [o3 3 0,
 o0 4 (.call .whole 25 [.t 3])]) (.seq (.region [0] [o3 5 0,
 o0 6 (.call .whole 29 [.t 5])]) (.seq (.region [0] [o3 7 0,
 o0 8 (.call .whole 33 [.t 7])]) (.seq (.region [0] [o3 9 0,
 o0 10 (.call .whole 34 [.t 9])]) (.seq (.region [0] [o3 11 0,
 o0 12 (.call .whole 28 [.t 11])]) (.seq (.region [0] [o3 13 0,
 o0 14 (.call .whole 24 [.t 13])]) (.seq (.region [0] [o3 15 0,
 o0 16 (.call .whole 18 [.t 15])]) (.seq (.region [0] [o3 17 0,
 o0 18 (.call .whole 17 [.t 17])]) (.seq (.region [0] [o3 19 0,
 o0 20 (.call .whole 23 [.t 19])]) (.seq (.region [0] [o3 21 0,
 o0 22 (.call .whole 22 [.t 21])]) (.seq (.region [0] [o3 23 0,
 o0 24 (.call .whole 21 [.t 23])]) (.seq (.region [0] [o3 25 0,
 o0 26 (.call .whole 32 [.t 25])]) (.seq (.region [0] [o3 27 0,
 o0 28 (.call .whole 35 [.t 27])]) (.seq (.region [0] [o3 29 0,
 o0 30 (.call .whole 30 [.t 29])]) (.seq (.region [0] [o3 31 0,
 o0 32 (.call .whole 26 [.t 31])]) (.seq (.region [0] [o3 33 0,
 o0 34 (.call .whole 20 [.t 33])]) (.seq (.region [0] [o3 35 0,
 o0 36 (.call .whole 19 [.t 35])]) (.seq (.region [0] [o3 37 0,
 o0 38 (.call .whole 27 [.t 37])]) (.seq (.region [0] [o3 39 0,
 o0 40 (.call .whole 16 [.t 39])]) (.seq (.region [0] [o3 41 0,
 o0 42 (.call .whole 31 [.t 41])]) (.seq (.region [0] [o3 43 0,
 o0 44 (.call .whole 45 [.t 43])]) (.seq (.region [0] [o3 45 0,
 o0 46 (.call .whole 49 [.t 45])]) (.seq (.region [0] [o3 47 0,
 o0 48 (.call .whole 53 [.t 47])]) (.seq (.region [0] [o3 49 0,
 o0 50 (.call .whole 54 [.t 49])]) (.seq (.region [0] [o3 51 0,
 o0 52 (.call .whole 48 [.t 51])]) (.seq (.region [0] [o3 53 0,
 o0 54 (.call .whole 44 [.t 53])]) (.seq (.region [0] [o3 55 0,
 o0 56 (.call .whole 38 [.t 55])]) (.seq (.region [0] [o3 57 0,
 o0 58 (.call .whole 37 [.t 57])]) (.seq (.region [0] [o3 59 0,
 o0 60 (.call .whole 43 [.t 59])]) (.seq (.region [0] [o3 61 0,
 o0 62 (.call .whole 42 [.t 61])]) (.seq (.region [0] [o3 63 0,
 o0 64 (.call .whole 41 [.t 63])]) (.seq (.region [0] [o3 65 0,
 o0 66 (.call .whole 52 [.t 65])]) (.seq (.region [0] [o3 67 0,
 o0 68 (.call .whole 55 [.t 67])]) (.seq (.region [0] [o3 69 0,
 o0 70 (.call .whole 50 [.t 69])]) (.seq (.region [0] [o3 71 0,
 o0 72 (.call .whole 46 [.t 71])]) (.seq (.region [0] [o3 73 0,
 o0 74 (.call .whole 40 [.t 73])]) (.seq (.region [0] [o3 75 0,
 o0 76 (.call .whole 39 [.t 75])]) (.seq (.region [0] [o3 77 0,
 o0 78 (.call .whole 47 [.t 77])]) (.seq (.region [0] [o3 79 0,
 o0 80 (.call .whole 36 [.t 79])]) (.seq (.region [0] [o3 81 0,
 o0 82 (.call .whole 51 [.t 81])]) (.seq (.region [2] [o3 83 0,
 o0 84 (.call .whole 75 [.t 83]),o3 85 84,
 o1 86 85 true (.mv (.t 0)),
 o1 87 85 true (.call .whole 79 [.t 86]),
 o0 88 (.pick (.t 85) (.t 87) (.c (.bool false))),o3 89 88,
 o1 90 89 true (.mv (.t 0)),
 o1 91 89 true (.call .whole 83 [.t 90]),
 o0 92 (.pick (.t 89) (.t 91) (.c (.bool false))),o3 93 92,
 o1 94 93 true (.mv (.t 0)),
 o1 95 93 true (.call .whole 84 [.t 94]),
 o0 96 (.pick (.t 93) (.t 95) (.c (.bool false))),o3 97 96,
 o1 98 97 true (.mv (.t 0)),
 o1 99 97 true (.call .whole 78 [.t 98]),
 o0 100 (.pick (.t 97) (.t 99) (.c (.bool false))),o3 101 100,
 o1 102 101 true (.mv (.t 0)),
 o1 103 101 true (.call .whole 74 [.t 102]),
 o0 104 (.pick (.t 101) (.t 103) (.c (.bool false))),o3 105 104,
 o1 106 105 true (.mv (.t 0)),
 o1 107 105 true (.call .whole 68 [.t 106]),
 o0 108 (.pick (.t 105) (.t 107) (.c (.bool false))),o3 109 108,
 o1 110 109 true (.mv (.t 0)),
 o1 111 109 true (.call .whole 67 [.t 110]),
 o0 112 (.pick (.t 109) (.t 111) (.c (.bool false))),o3 113 112,
 o1 114 113 true (.mv (.t 0)),
 o1 115 113 true (.call .whole 73 [.t 114]),
 o0 116 (.pick (.t 113) (.t 115) (.c (.bool false))),o3 117 116,
 o1 118 117 true (.mv (.t 0)),
 o1 119 117 true (.call .whole 72 [.t 118]),
 o0 120 (.pick (.t 117) (.t 119) (.c (.bool false))),o3 121 120,
 o1 122 121 true (.mv (.t 0)),
 o1 123 121 true (.call .whole 71 [.t 122]),
 o0 124 (.pick (.t 121) (.t 123) (.c (.bool false))),o3 125 124,
 o1 126 125 true (.mv (.t 0)),
 o1 127 125 true (.call .whole 82 [.t 126]),
 o0 128 (.pick (.t 125) (.t 127) (.c (.bool false))),o3 129 128,
 o1 130 129 true (.mv (.t 0)),
 o1 131 129 true (.call .whole 85 [.t 130]),
 o0 132 (.pick (.t 129) (.t 131) (.c (.bool false))),o3 133 132,
 o1 134 133 true (.mv (.t 0)),
 o1 135 133 true (.call .whole 80 [.t 134]),
 o0 136 (.pick (.t 133) (.t 135) (.c (.bool false))),o3 137 136,
 o1 138 137 true (.mv (.t 0)),
 o1 139 137 true (.call .whole 76 [.t 138]),
 o0 140 (.pick (.t 137) (.t 139) (.c (.bool false))),o3 141 140,
 o1 142 141 true (.mv (.t 0)),
 o1 143 141 true (.call .whole 70 [.t 142]),
 o0 144 (.pick (.t 141) (.t 143) (.c (.bool false))),o3 145 144,
 o1 146 145 true (.mv (.t 0)),
 o1 147 145 true (.call .whole 69 [.t 146]),
 o0 148 (.pick (.t 145) (.t 147) (.c (.bool false))),o3 149 148,
 o1 150 149 true (.mv (.t 0)),
 o1 151 149 true (.call .whole 77 [.t 150]),
 o0 152 (.pick (.t 149) (.t 151) (.c (.bool false))),o3 153 152,
 o1 154 153 true (.mv (.t 0)),
 o1 155 153 true (.call .whole 66 [.t 154]),
 o0 156 (.pick (.t 153) (.t 155) (.c (.bool false))),o3 157 156,
 o1 158 157 true (.mv (.t 0)),
 o1 159 157 true (.call .whole 81 [.t 158]),
 o0 160 (.pick (.t 157) (.t 159) (.c (.bool false))),o3 2 160]) .ret))))))))))))))))))))))))))))))))))))))))))⟩
def zs8:zab:=
 zct 1 1 411
def ztc:zab:=
 zct 1 2 415
def zti:zab:=
 zct 1 3 419
def ztj:zab:=
 zct 2 4 420
def ztb:zab:=
 zct 5 5 414
def zs7:zab:=
 zct 2 6 410
def zs1:zab:=
 zct 3 7 404
def zs0:zab:=
 zct 2 8 403
def zs6:zab:=
 zct 4 9 409
def zs5:zab:=
 zct 8 10 408
def zs4:zab:=
 zct 7 11 407
def ztf:zab:=
 zct 6 12 418
def ztk:zab:=
 zct 4 13 421
def ztd:zab:=
 zct 6 14 416
def zs9:zab:=
 zct 3 15 412
def zs3:zab:=
 zct 2 16 406
def zs2:zab:=
 zct 3 17 405
def zta:zab:=
 zct 5 18 413
def zsz:zab:=
 zct 6 19 402
def zte:zab:=
 zct 2 20 417
def zt1:zab:=
 zcu 1 8 [(.int .i64 0)] 1 411
def zt6:zab:=
 zcu 1 8 [(.int .i64 0)] 2 415
def zua:zab:=
 zcu 1 16 [(.string .empty)] 3 419
def zub:zab:=
 zcu 2 16 [(.int .u8 0),(.int .i64 0)] 4 420
def zt5:zab:=
 zcu 5 64 [(.int .u8 0),(.string .empty),(.slice none 0 0),(.int .i64 0),(.int .i64 0)] 5 414
def zt0:zab:=
 zcu 2 16 [(.int .u8 0),(.int .i64 0)] 6 410
def ztp:zab:=
 zcu 3 32 [(.int .u8 0),(.int .i64 0),(.string .empty)] 7 404
def zto:zab:=
 zcu 2 16 [(.bool false),(.int .i64 0)] 8 403
def ztz:zab:=
 zcu 4 32 [(.int .i64 0),(.int .i64 0),(.int .i64 0),(.int .i64 0)] 9 409
def zty:zab:=
 zcu 8 152 [(.string .empty),(.int .i64 0),(.int .i64 0),(.slice none 0 0),(.slice none 0 0),(.slice none 0 0),(.slice none 0 0),(.slice none 0 0)] 10 408
def ztv:zab:=
 zcu 7 112 [(.int .u8 0),(.int .i64 0),(.string .empty),(.slice none 0 0),(.slice none 0 0),(.slice none 0 0),(.int .i64 0)] 11 407
def zt9:zab:=
 zcu 6 104 [(.int .u8 0),(.string .empty),(.slice none 0 0),(.slice none 0 0),(.slice none 0 0),(.int .i64 0)] 12 418
def zuc:zab:=
 zcu 4 40 [(.int .u8 0),(.string .empty),(.int .i64 0),(.int .i64 0)] 13 421
def zt7:zab:=
 zcu 6 64 [(.int .u8 0),(.int .i64 0),(.slice none 0 0),(.int .i64 0),(.int .u8 0),(.int .i64 0)] 14 416
def zt2:zab:=
 zcu 3 24 [(.int .i64 0),(.int .u8 0),(.int .i64 0)] 15 412
def ztt:zab:=
 zcu 2 32 [(.int .i64 0),(.slice none 0 0)] 16 406
def ztr:zab:=
 zcu 3 40 [(.int .i64 0),(.int .i64 0),(.slice none 0 0)] 17 405
def zt3:zab:=
 zcu 5 56 [(.int .u8 0),(.slice none 0 0),(.int .i64 0),(.int .u8 0),(.int .i64 0)] 18 413
def ztl:zab:=
 zcu 6 112 [(.slice none 0 0),(.int .u8 0),(.slice none 0 0),(.slice none 0 0),(.slice none 0 0),(.int .i64 0)] 19 402
def zt8:zab:=
 zcu 2 32 [(.int .i64 0),(.slice none 0 0)] 20 417
@[simp] def zxq(n0:Nat):XCode:=
 (.seq (.seq (.region [0,3,4,5,34] [o3 30 5,o5 31 1 4,o4 32 31,o8 33 32,o0 34 (.bin .lss (.t 30) (.t 33))]) (.cond (.t 34) .skip (.exit 2))) (.seq (.block 3 (.seq (.region [0,3,4,5,63] [o5 37 1 4,o4 38 37,o3 39 5,o0 40 (.idxA 1 (.t 38) (.t 39)),o4 41 40,o5 42 2 4,o4 43 42,o0 44 (.call .view n0 [(.t 41),(.t 43)]),o0 45 (.un .not (.t 44)),o3 46 45,o1 47 46 false (.mv (.t 5)),o1 48 46 false (.fieldA 0 (.t 4)),o1 49 46 false (.load none (.t 48)),o1 50 46 false (.len (.t 49)),o1 51 46 false (.bin .lss (.t 47) (.t 50)),o1 52 46 false (.mv (.t 51)),o1 53 52 true (.fieldA 0 (.t 4)),o1 54 52 true (.load none (.t 53)),o1 55 52 true (.mv (.t 5)),o1 56 52 true (.idxA 1 (.t 54) (.t 55)),o1 57 52 true (.load none (.t 56)),o1 58 52 true (.fieldA 2 (.t 4)),o1 59 52 true (.load none (.t 58)),o1 60 52 true (.call .view n0 [(.t 57),(.t 59)]),o1 61 52 true (.un .not (.t 60)),o1 62 46 false (.pick (.t 52) (.t 61) (.c (.bool false))),o0 63 (.pick (.t 46) (.c (.bool true)) (.t 62))]) (.cond (.t 63) (.seq (.region [2] [o0 2 (.mv (.c (.bool false)))]) .ret) .skip))) (.region [0,3,4,5] [o3 35 5,o0 36 (.bin .add (.t 35) (.c (.int .i64 1))),o3 5 36])))
def yjm:XCode:=
 zxq 391
@[simp] def zxr(n0:Nat)(c1:XCode):XCode:=
 (.seq (.seq (.region [0,3,12] [o3 6 3,o3 7 0,o7 8 7,o5 9 n0 8,o4 10 9,o8 11 10,o0 12 (.bin .lss (.t 6) (.t 11))]) (.cond (.t 12) .skip (.exit 0))) (.seq (.block 1 (.seq (.region [0,3,4] [o3 15 0,o7 16 15,o5 17 n0 16,o4 18 17,o3 19 3,o0 20 (.idxA 3 (.t 18) (.t 19)),o6 21 3 20,o0 4 (.alloc [(.slice none 0 0),(.slice none 0 0),(.int .i64 0)]),o2 (.store 3 (.t 4) (.t 21))]) (.seq (.seq (.region [0,3,4,29] [o5 22 1 4,o4 23 22,o8 24 23,o5 25 0 4,o4 26 25,o8 27 26,o0 28 (.bin .add (.t 27) (.c (.int .i64 40))),o0 29 (.bin .neq (.t 24) (.t 28))]) (.cond (.t 29) (.seq (.region [2] [o0 2 (.mv (.c (.bool false)))]) .ret) .skip)) (.seq (.region [0,3,4,5] [o0 5 (.mv (.c (.int .i64 0)))]) (.block 2 (.loop [1000000,0,3,4,5] c1)))))) (.region [0,3] [o3 13 3,o0 14 (.bin .add (.t 13) (.c (.int .i64 1))),o3 3 14])))
def z5d:XCode:=
 zxr 1 yjm
@[simp] def zxs(c0:XCode):zab:=
 ⟨[.whole,.tmp 2],(.seq (.region [0] [o0 2 (.mv (.c (.bool false)))]) (.seq (.seq (.region [0,3] [o0 3 (.mv (.c (.int .i64 0)))]) (.block 0 (.loop [1000000,0,3] c0))) (.seq (.region [2] [o0 2 (.mv (.c (.bool true)))]) .ret)))⟩
def zqo:zab:=
 zxs z5d
def yjo:XCode:=
 zxq 395
def z5e:XCode:=
 zxr 2 yjo
def zqp:zab:=
 zxs z5e
def yjp:XCode:=
 zxq 399
def z5f:XCode:=
 zxr 3 yjp
def zqq:zab:=
 zxs z5f
def zuw:zab:=
 zc8 2 4 400
def zus:zab:=
 zc8 5 5 394
def zuo:zab:=
 zc8 2 6 390
def zuh:zab:=
 zc8 3 7 384
def zug:zab:=
 zc8 2 8 383
def zun:zab:=
 zc8 4 9 389
def zum:zab:=
 zc8 8 10 388
def zul:zab:=
 zc8 7 11 387
def zuv:zab:=
 zc8 6 12 398
def zux:zab:=
 zc8 4 13 401
def zut:zab:=
 zc8 6 14 396
def zup:zab:=
 zc8 3 15 392
def zuk:zab:=
 zc8 2 16 386
def zui:zab:=
 zc8 3 17 385
def zuq:zab:=
 zc8 5 18 393
def zuf:zab:=
 zc8 6 19 382
def zuu:zab:=
 zc8 2 20 397
set_option linter.unusedVariables false
set_option linter.unusedSimpArgs false
section
variable {code:Nat->Option zab} {ext:zac} {M:Mem} {b:Nat} {B:List AV}
theorem zeg{g sz f mk:Nat}(h:code g=some (zct sz f mk))(hM:M[b]?=some (.rich B))(hB:B[f]?=some (.imm (.val (.slice none 0 0)))):callW code ext g [.optr b 0] M=some (.tup [],M):=by
 rw[zad code ext h]
 simp -implicitDefEqProofs [zct,zoj,zfi,hM,hB]
theorem zeh{g sz by_ f mk:Nat}{zs:List Value}(h:code g=some (zcu sz by_ zs f mk))(hM:M[b]?=some (.rich B))(hB:B[f]?=some (.imm (.val (.slice none 0 0)))):callW code ext g [.optr b 0] M=some (.tup [],M):=by
 rw[zad code ext h]
 simp -implicitDefEqProofs [zcu,zom,zfi,hM,hB]
theorem zfl{g sz f isn:Nat}(h:code g=some (zc8 sz f isn))(hM:M[b]?=some (.rich B))(hB:B[f]?=some (.imm (.val (.slice none 0 0)))):callW code ext g [.optr b 0] M=some (avb true,M):=by
 rw[zad code ext h]
 simp -implicitDefEqProofs [zc8,zos,zfi,hM,hB]
theorem ycr(h:code 25=some zs8)(hM:M[b]?=some (.rich B))(hB:B[1]?=some (.imm (.val (.slice none 0 0)))):callW code ext 25 [.optr b 0] M=some (.tup [],M):=
 zeg (sz:=1) (f:=1) (mk:=411) h hM hB
theorem ycu(h:code 29=some ztc)(hM:M[b]?=some (.rich B))(hB:B[2]?=some (.imm (.val (.slice none 0 0)))):callW code ext 29 [.optr b 0] M=some (.tup [],M):=
 zeg (sz:=1) (f:=2) (mk:=415) h hM hB
theorem ycy(h:code 33=some zti)(hM:M[b]?=some (.rich B))(hB:B[3]?=some (.imm (.val (.slice none 0 0)))):callW code ext 33 [.optr b 0] M=some (.tup [],M):=
 zeg (sz:=1) (f:=3) (mk:=419) h hM hB
theorem ycq(h:code 24=some zs7)(hM:M[b]?=some (.rich B))(hB:B[6]?=some (.imm (.val (.slice none 0 0)))):callW code ext 24 [.optr b 0] M=some (.tup [],M):=
 zeg (sz:=2) (f:=6) (mk:=410) h hM hB
theorem yck(h:code 18=some zs1)(hM:M[b]?=some (.rich B))(hB:B[7]?=some (.imm (.val (.slice none 0 0)))):callW code ext 18 [.optr b 0] M=some (.tup [],M):=
 zeg (sz:=3) (f:=7) (mk:=404) h hM hB
theorem ycj(h:code 17=some zs0)(hM:M[b]?=some (.rich B))(hB:B[8]?=some (.imm (.val (.slice none 0 0)))):callW code ext 17 [.optr b 0] M=some (.tup [],M):=
 zeg (sz:=2) (f:=8) (mk:=403) h hM hB
theorem ycp(h:code 23=some zs6)(hM:M[b]?=some (.rich B))(hB:B[9]?=some (.imm (.val (.slice none 0 0)))):callW code ext 23 [.optr b 0] M=some (.tup [],M):=
 zeg (sz:=4) (f:=9) (mk:=409) h hM hB
theorem yco(h:code 22=some zs5)(hM:M[b]?=some (.rich B))(hB:B[10]?=some (.imm (.val (.slice none 0 0)))):callW code ext 22 [.optr b 0] M=some (.tup [],M):=
 zeg (sz:=8) (f:=10) (mk:=408) h hM hB
theorem ycn(h:code 21=some zs4)(hM:M[b]?=some (.rich B))(hB:B[11]?=some (.imm (.val (.slice none 0 0)))):callW code ext 21 [.optr b 0] M=some (.tup [],M):=
 zeg (sz:=7) (f:=11) (mk:=407) h hM hB
theorem ycx(h:code 32=some ztf)(hM:M[b]?=some (.rich B))(hB:B[12]?=some (.imm (.val (.slice none 0 0)))):callW code ext 32 [.optr b 0] M=some (.tup [],M):=
 zeg (sz:=6) (f:=12) (mk:=418) h hM hB
theorem ycz(h:code 35=some ztk)(hM:M[b]?=some (.rich B))(hB:B[13]?=some (.imm (.val (.slice none 0 0)))):callW code ext 35 [.optr b 0] M=some (.tup [],M):=
 zeg (sz:=4) (f:=13) (mk:=421) h hM hB
theorem ycv(h:code 30=some ztd)(hM:M[b]?=some (.rich B))(hB:B[14]?=some (.imm (.val (.slice none 0 0)))):callW code ext 30 [.optr b 0] M=some (.tup [],M):=
 zeg (sz:=6) (f:=14) (mk:=416) h hM hB
theorem ycs(h:code 26=some zs9)(hM:M[b]?=some (.rich B))(hB:B[15]?=some (.imm (.val (.slice none 0 0)))):callW code ext 26 [.optr b 0] M=some (.tup [],M):=
 zeg (sz:=3) (f:=15) (mk:=412) h hM hB
theorem ycm(h:code 20=some zs3)(hM:M[b]?=some (.rich B))(hB:B[16]?=some (.imm (.val (.slice none 0 0)))):callW code ext 20 [.optr b 0] M=some (.tup [],M):=
 zeg (sz:=2) (f:=16) (mk:=406) h hM hB
theorem ycl(h:code 19=some zs2)(hM:M[b]?=some (.rich B))(hB:B[17]?=some (.imm (.val (.slice none 0 0)))):callW code ext 19 [.optr b 0] M=some (.tup [],M):=
 zeg (sz:=3) (f:=17) (mk:=405) h hM hB
theorem yct(h:code 27=some zta)(hM:M[b]?=some (.rich B))(hB:B[18]?=some (.imm (.val (.slice none 0 0)))):callW code ext 27 [.optr b 0] M=some (.tup [],M):=
 zeg (sz:=5) (f:=18) (mk:=413) h hM hB
theorem yci(h:code 16=some zsz)(hM:M[b]?=some (.rich B))(hB:B[19]?=some (.imm (.val (.slice none 0 0)))):callW code ext 16 [.optr b 0] M=some (.tup [],M):=
 zeg (sz:=6) (f:=19) (mk:=402) h hM hB
theorem ycw(h:code 31=some zte)(hM:M[b]?=some (.rich B))(hB:B[20]?=some (.imm (.val (.slice none 0 0)))):callW code ext 31 [.optr b 0] M=some (.tup [],M):=
 zeg (sz:=2) (f:=20) (mk:=417) h hM hB
theorem yc9(h:code 45=some zt1)(hM:M[b]?=some (.rich B))(hB:B[1]?=some (.imm (.val (.slice none 0 0)))):callW code ext 45 [.optr b 0] M=some (.tup [],M):=
 zeh (sz:=1) (by_:=8) (zs:=[(.int .i64 0)]) (f:=1) (mk:=411) h hM hB
theorem ydc(h:code 49=some zt6)(hM:M[b]?=some (.rich B))(hB:B[2]?=some (.imm (.val (.slice none 0 0)))):callW code ext 49 [.optr b 0] M=some (.tup [],M):=
 zeh (sz:=1) (by_:=8) (zs:=[(.int .i64 0)]) (f:=2) (mk:=415) h hM hB
theorem ydg(h:code 53=some zua)(hM:M[b]?=some (.rich B))(hB:B[3]?=some (.imm (.val (.slice none 0 0)))):callW code ext 53 [.optr b 0] M=some (.tup [],M):=
 zeh (sz:=1) (by_:=16) (zs:=[(.string .empty)]) (f:=3) (mk:=419) h hM hB
theorem yc8(h:code 44=some zt0)(hM:M[b]?=some (.rich B))(hB:B[6]?=some (.imm (.val (.slice none 0 0)))):callW code ext 44 [.optr b 0] M=some (.tup [],M):=
 zeh (sz:=2) (by_:=16) (zs:=[(.int .u8 0),(.int .i64 0)]) (f:=6) (mk:=410) h hM hB
theorem yc2(h:code 38=some ztp)(hM:M[b]?=some (.rich B))(hB:B[7]?=some (.imm (.val (.slice none 0 0)))):callW code ext 38 [.optr b 0] M=some (.tup [],M):=
 zeh (sz:=3) (by_:=32) (zs:=[(.int .u8 0),(.int .i64 0),(.string .empty)]) (f:=7) (mk:=404) h hM hB
theorem yc1(h:code 37=some zto)(hM:M[b]?=some (.rich B))(hB:B[8]?=some (.imm (.val (.slice none 0 0)))):callW code ext 37 [.optr b 0] M=some (.tup [],M):=
 zeh (sz:=2) (by_:=16) (zs:=[(.bool false),(.int .i64 0)]) (f:=8) (mk:=403) h hM hB
theorem yc7(h:code 43=some ztz)(hM:M[b]?=some (.rich B))(hB:B[9]?=some (.imm (.val (.slice none 0 0)))):callW code ext 43 [.optr b 0] M=some (.tup [],M):=
 zeh (sz:=4) (by_:=32) (zs:=[(.int .i64 0),(.int .i64 0),(.int .i64 0),(.int .i64 0)]) (f:=9) (mk:=409) h hM hB
theorem yc6(h:code 42=some zty)(hM:M[b]?=some (.rich B))(hB:B[10]?=some (.imm (.val (.slice none 0 0)))):callW code ext 42 [.optr b 0] M=some (.tup [],M):=
 zeh (sz:=8) (by_:=152) (zs:=[(.string .empty),(.int .i64 0),(.int .i64 0),(.slice none 0 0),(.slice none 0 0),(.slice none 0 0),(.slice none 0 0),(.slice none 0 0)]) (f:=10) (mk:=408) h hM hB
theorem yc5(h:code 41=some ztv)(hM:M[b]?=some (.rich B))(hB:B[11]?=some (.imm (.val (.slice none 0 0)))):callW code ext 41 [.optr b 0] M=some (.tup [],M):=
 zeh (sz:=7) (by_:=112) (zs:=[(.int .u8 0),(.int .i64 0),(.string .empty),(.slice none 0 0),(.slice none 0 0),(.slice none 0 0),(.int .i64 0)]) (f:=11) (mk:=407) h hM hB
theorem ydf(h:code 52=some zt9)(hM:M[b]?=some (.rich B))(hB:B[12]?=some (.imm (.val (.slice none 0 0)))):callW code ext 52 [.optr b 0] M=some (.tup [],M):=
 zeh (sz:=6) (by_:=104) (zs:=[(.int .u8 0),(.string .empty),(.slice none 0 0),(.slice none 0 0),(.slice none 0 0),(.int .i64 0)]) (f:=12) (mk:=418) h hM hB
theorem ydh(h:code 55=some zuc)(hM:M[b]?=some (.rich B))(hB:B[13]?=some (.imm (.val (.slice none 0 0)))):callW code ext 55 [.optr b 0] M=some (.tup [],M):=
 zeh (sz:=4) (by_:=40) (zs:=[(.int .u8 0),(.string .empty),(.int .i64 0),(.int .i64 0)]) (f:=13) (mk:=421) h hM hB
theorem ydd(h:code 50=some zt7)(hM:M[b]?=some (.rich B))(hB:B[14]?=some (.imm (.val (.slice none 0 0)))):callW code ext 50 [.optr b 0] M=some (.tup [],M):=
 zeh (sz:=6) (by_:=64) (zs:=[(.int .u8 0),(.int .i64 0),(.slice none 0 0),(.int .i64 0),(.int .u8 0),(.int .i64 0)]) (f:=14) (mk:=416) h hM hB
theorem yda(h:code 46=some zt2)(hM:M[b]?=some (.rich B))(hB:B[15]?=some (.imm (.val (.slice none 0 0)))):callW code ext 46 [.optr b 0] M=some (.tup [],M):=
 zeh (sz:=3) (by_:=24) (zs:=[(.int .i64 0),(.int .u8 0),(.int .i64 0)]) (f:=15) (mk:=412) h hM hB
theorem yc4(h:code 40=some ztt)(hM:M[b]?=some (.rich B))(hB:B[16]?=some (.imm (.val (.slice none 0 0)))):callW code ext 40 [.optr b 0] M=some (.tup [],M):=
 zeh (sz:=2) (by_:=32) (zs:=[(.int .i64 0),(.slice none 0 0)]) (f:=16) (mk:=406) h hM hB
theorem yc3(h:code 39=some ztr)(hM:M[b]?=some (.rich B))(hB:B[17]?=some (.imm (.val (.slice none 0 0)))):callW code ext 39 [.optr b 0] M=some (.tup [],M):=
 zeh (sz:=3) (by_:=40) (zs:=[(.int .i64 0),(.int .i64 0),(.slice none 0 0)]) (f:=17) (mk:=405) h hM hB
theorem ydb(h:code 47=some zt3)(hM:M[b]?=some (.rich B))(hB:B[18]?=some (.imm (.val (.slice none 0 0)))):callW code ext 47 [.optr b 0] M=some (.tup [],M):=
 zeh (sz:=5) (by_:=56) (zs:=[(.int .u8 0),(.slice none 0 0),(.int .i64 0),(.int .u8 0),(.int .i64 0)]) (f:=18) (mk:=413) h hM hB
theorem yc0(h:code 36=some ztl)(hM:M[b]?=some (.rich B))(hB:B[19]?=some (.imm (.val (.slice none 0 0)))):callW code ext 36 [.optr b 0] M=some (.tup [],M):=
 zeh (sz:=6) (by_:=112) (zs:=[(.slice none 0 0),(.int .u8 0),(.slice none 0 0),(.slice none 0 0),(.slice none 0 0),(.int .i64 0)]) (f:=19) (mk:=402) h hM hB
theorem yde(h:code 51=some zt8)(hM:M[b]?=some (.rich B))(hB:B[20]?=some (.imm (.val (.slice none 0 0)))):callW code ext 51 [.optr b 0] M=some (.tup [],M):=
 zeh (sz:=2) (by_:=32) (zs:=[(.int .i64 0),(.slice none 0 0)]) (f:=20) (mk:=417) h hM hB
theorem ydr(h:code 75=some zqo)(hM:M[b]?=some (.rich B))(hB:B[1]?=some (.imm (.val (.slice none 0 0)))):callW code ext 75 [.optr b 0] M=some (avb true,M):=by
 rw[zad code ext h]
 simp -implicitDefEqProofs [zqo,z5d,zfi,hM,hB]
theorem ydu(h:code 79=some zqp)(hM:M[b]?=some (.rich B))(hB:B[2]?=some (.imm (.val (.slice none 0 0)))):callW code ext 79 [.optr b 0] M=some (avb true,M):=by
 rw[zad code ext h]
 simp -implicitDefEqProofs [zqp,z5e,zfi,hM,hB]
theorem ydy(h:code 83=some zqq)(hM:M[b]?=some (.rich B))(hB:B[3]?=some (.imm (.val (.slice none 0 0)))):callW code ext 83 [.optr b 0] M=some (avb true,M):=by
 rw[zad code ext h]
 simp -implicitDefEqProofs [zqq,z5f,zfi,hM,hB]
theorem ydq(h:code 74=some zuo)(hM:M[b]?=some (.rich B))(hB:B[6]?=some (.imm (.val (.slice none 0 0)))):callW code ext 74 [.optr b 0] M=some (avb true,M):=
 zfl (sz:=2) (f:=6) (isn:=390) h hM hB
theorem ydk(h:code 68=some zuh)(hM:M[b]?=some (.rich B))(hB:B[7]?=some (.imm (.val (.slice none 0 0)))):callW code ext 68 [.optr b 0] M=some (avb true,M):=
 zfl (sz:=3) (f:=7) (isn:=384) h hM hB
theorem ydj(h:code 67=some zug)(hM:M[b]?=some (.rich B))(hB:B[8]?=some (.imm (.val (.slice none 0 0)))):callW code ext 67 [.optr b 0] M=some (avb true,M):=
 zfl (sz:=2) (f:=8) (isn:=383) h hM hB
theorem ydp(h:code 73=some zun)(hM:M[b]?=some (.rich B))(hB:B[9]?=some (.imm (.val (.slice none 0 0)))):callW code ext 73 [.optr b 0] M=some (avb true,M):=
 zfl (sz:=4) (f:=9) (isn:=389) h hM hB
theorem ydo(h:code 72=some zum)(hM:M[b]?=some (.rich B))(hB:B[10]?=some (.imm (.val (.slice none 0 0)))):callW code ext 72 [.optr b 0] M=some (avb true,M):=
 zfl (sz:=8) (f:=10) (isn:=388) h hM hB
theorem ydn(h:code 71=some zul)(hM:M[b]?=some (.rich B))(hB:B[11]?=some (.imm (.val (.slice none 0 0)))):callW code ext 71 [.optr b 0] M=some (avb true,M):=
 zfl (sz:=7) (f:=11) (isn:=387) h hM hB
theorem ydx(h:code 82=some zuv)(hM:M[b]?=some (.rich B))(hB:B[12]?=some (.imm (.val (.slice none 0 0)))):callW code ext 82 [.optr b 0] M=some (avb true,M):=
 zfl (sz:=6) (f:=12) (isn:=398) h hM hB
theorem ydz(h:code 85=some zux)(hM:M[b]?=some (.rich B))(hB:B[13]?=some (.imm (.val (.slice none 0 0)))):callW code ext 85 [.optr b 0] M=some (avb true,M):=
 zfl (sz:=4) (f:=13) (isn:=401) h hM hB
theorem ydv(h:code 80=some zut)(hM:M[b]?=some (.rich B))(hB:B[14]?=some (.imm (.val (.slice none 0 0)))):callW code ext 80 [.optr b 0] M=some (avb true,M):=
 zfl (sz:=6) (f:=14) (isn:=396) h hM hB
theorem yds(h:code 76=some zup)(hM:M[b]?=some (.rich B))(hB:B[15]?=some (.imm (.val (.slice none 0 0)))):callW code ext 76 [.optr b 0] M=some (avb true,M):=
 zfl (sz:=3) (f:=15) (isn:=392) h hM hB
theorem ydm(h:code 70=some zuk)(hM:M[b]?=some (.rich B))(hB:B[16]?=some (.imm (.val (.slice none 0 0)))):callW code ext 70 [.optr b 0] M=some (avb true,M):=
 zfl (sz:=2) (f:=16) (isn:=386) h hM hB
theorem ydl(h:code 69=some zui)(hM:M[b]?=some (.rich B))(hB:B[17]?=some (.imm (.val (.slice none 0 0)))):callW code ext 69 [.optr b 0] M=some (avb true,M):=
 zfl (sz:=3) (f:=17) (isn:=385) h hM hB
theorem ydt(h:code 77=some zuq)(hM:M[b]?=some (.rich B))(hB:B[18]?=some (.imm (.val (.slice none 0 0)))):callW code ext 77 [.optr b 0] M=some (avb true,M):=
 zfl (sz:=5) (f:=18) (isn:=393) h hM hB
theorem ydi(h:code 66=some zuf)(hM:M[b]?=some (.rich B))(hB:B[19]?=some (.imm (.val (.slice none 0 0)))):callW code ext 66 [.optr b 0] M=some (avb true,M):=
 zfl (sz:=6) (f:=19) (isn:=382) h hM hB
theorem ydw(h:code 81=some zuu)(hM:M[b]?=some (.rich B))(hB:B[20]?=some (.imm (.val (.slice none 0 0)))):callW code ext 81 [.optr b 0] M=some (avb true,M):=
 zfl (sz:=2) (f:=20) (isn:=397) h hM hB
end
def za3(cells:List AV)(o:AObj):Prop:=o=.rich cells\/∃cs,o=.flat cs false/\cells=cs.map .imm
def zfd(M:Mem)(vx:AV)(cells:List AV)(ne:Nat):Prop:=
 (vx=zae/\cells=[]/\ne=0)\/∃vid o,vx=.osl vid 0 3 ne none/\M[vid]?=some o/\za3 cells o/\cells.length=ne*3/\0<ne
def zc1(M:Mem):AV->Mem
 |.osl id _ _ _ _=>M.set id .dead
 |_=>M
theorem ygi(one:List AV):za3 one (zbp one):=by
 unfold zbp
 cases h:zdx one with
 |none=>exact .inl rfl
 |some xs=>exact .inr ⟨xs,rfl,ziy _ _ h⟩
theorem zxk{M:Mem}{id n sz:Nat}{cells:List AV}{o:AObj}{cap:Option Nat}(hM:M[id]?=some o)(h:za3 cells o)(hl:cells.length=n*sz):zbr M sz (.osl id 0 sz n cap)=some (n,cells):=by
 rcases h with rfl|⟨cs,rfl,rfl⟩
 ·simp only[zbr,hM]
  rw[zdv _ hl];rfl
 ·rw[xam]at hl
  simp only[zbr,hM]
  rw[zdv _ hl];rfl
theorem ze2{α:Type}(M:List α)(x:α):(M++[x])[M.length]?=some x:=by simp
theorem zry(k:Nat)(e:Env){M:Mem}{vx:AV}{cells one:List AV}{ne:Nat}(h1:one.length=3)(h:zfd M vx cells ne)(hk:∀id∈vx.refs,id<k)(hn:ne<=1000000000):
  ∃o',za3 (cells++one) o'/\zaz ⟨k,e,M++[zbp one]⟩ 3 56 vx (.osl M.length 0 3 1 (some 1))=some (.osl (M.length+1) 0 3 (ne+1) none,⟨k,e,zc1 M vx++[zbp one,o']⟩):=by
 have hr2:zbr (M++[zbp one]) 3 (.osl M.length 0 3 1 (some 1))=some (1,one):=zxk (ze2 _ _) (ygi one) (by omega)
 rcases h with⟨rfl,rfl,rfl⟩|⟨vid,o,rfl,ho,hrow,hl,hpos⟩
 ·cases him:zdx one with
  |none=>
   refine⟨.rich one,.inl rfl,?_⟩
   have hmk:zbp one=.rich one:=by unfold zbp;rw[him]
   rw[hmk]at hr2 ⊢
   have hel:elems (M++[.rich one]) 3 (.osl M.length 0 3 1 (some 1))=none:=by
    simp only[elems,ze2]
    rw[zdv _ (by omega)]
    simp[him]
   simp only[zaz,za0,hel,zb8,hr2]
   simp[zc1,fresh]
  |some xs=>
   have hxs:=ziy _ _ him
   subst hxs
   refine⟨.flat xs false,.inr ⟨xs,rfl,rfl⟩,?_⟩
   have hmk:zbp (xs.map .imm)=.flat xs false:=by unfold zbp;rw[him]
   rw[hmk]at hr2 ⊢
   rw[xam]at h1
   have hel:elems (M++[.flat xs false]) 3 (.osl M.length 0 3 1 (some 1))=some (1,xs):=by
    simp only[elems,ze2]
    rw[zdv _ (by omega)];rfl
   simp only[zaz,za0,hel]
   simp[zc1,fresh]
 ·have hvl:vid<M.length:=(xab.1 ho).1
  have hvk:¬k<=vid:=by have:=hk vid (by simp[AV.refs]);omega
  refine⟨.rich (cells++one),.inl rfl,?_⟩
  have hr1:zbr (M++[zbp one]) 3 (.osl vid 0 3 ne none)=some (ne,cells):=zxk (by rw[xac hvl];exact ho) hrow hl
  have hset:(M++[zbp one]).set vid .dead=M.set vid .dead++[zbp one]:=by rw[List.set_append_left _ _ hvl]
  have hA:zb8 ⟨k,e,M++[zbp one]⟩ 3 56 (.osl vid 0 3 ne none) (.osl M.length 0 3 1 (some 1))=some (.osl (M.length+1) 0 3 (ne+1) none,⟨k,e,zc1 M (.osl vid 0 3 ne none)++[zbp one,.rich (cells++one)]⟩):=by
   simp only[zb8,hr2,hr1]
   have hb:(ne+1)*56<=140737488355328:=by omega
   simp[hb,hset,zc1,-zbp]
  have hno:za0 ⟨k,e,M++[zbp one]⟩ 3 56 (.osl vid 0 3 ne none) (.osl M.length 0 3 1 (some 1))=none:=by
   unfold za0
   cases elems (M++[zbp one]) 3 (.osl M.length 0 3 1 (some 1))with
   |none=>rfl
   |some p=>simp[hvk]
  simp only[zaz,hno]
  exact hA
section
variable {code:Nat->Option zab} {ext:zac} {M:Mem} {b:Nat} {B:List AV}
theorem zmj(M:Mem)(vx:AV):(zc1 M vx).length=M.length:=by
 cases vx<;>simp[zc1]
theorem zmi{M:Mem}{vx:AV}{id:Nat}(h:id ∉ vx.refs):(zc1 M vx)[id]?=M[id]?:=by
 cases vx with
 |osl i a c d e=>
  simp only[zc1]
  rw[xa6]
  intro he
  apply h
  simp[AV.refs,he]
 |_=>rfl
theorem zsg(B:List AV)(j:Nat)(x y:AV){i:Nat}(h0:i≠0)(hj:i≠j):((B.set 0 x).set j y)[i]?=B[i]?:=by
 rw[xa6 (fun h=>hj h.symm),xa6 (fun h=>h0 h.symm)]
theorem z94(h:code 64=some zi9)(hM:M[b]?=some (.rich B))(hB:B.length=21){n:Int}(h0:B[0]?=some (zaa n))(hn0:0<=n)(hn:n<=1000000000){vx x:AV}{cells:List AV}{ne:Nat}(h4:B[4]?=some vx)(hh:zfd M vx cells ne)(hne:ne<=1000000000)
  (hx:x.cells=some [x]) (hvx:∀id∈vx.refs,id<M.length/\id≠b):
  ∃o',za3 (cells++[x,zae,zaa (n+1)]) o'/\callW code ext 64 [.optr b 0,x] M=
   some (.tup [],(zc1 (M.set b (.rich ((B.set 0 (zaa (n+1))).set 4 (.osl (M.length+1) 0 3 (ne+1) none)))) vx)++[zbp [x,zae,zaa (n+1)],o']):=by
 have hbl:b<M.length:=(xab.1 hM).1
 have e1:IntKind.wrap .i64 (n+1)=n+1:=zaw (by omega) (by omega)
 have hM1:(M.set b (.rich (B.set 0 (zaa (n+1)))))[b]?=some (.rich (B.set 0 (zaa (n+1)))):=by simp[hbl]
 have hB4:(B.set 0 (zaa (n+1)))[4]?=some vx:=by rw[xa6 (by decide)];exact h4
 have hB0:(B.set 0 (zaa (n+1)))[0]?=some (zaa (n+1)):=by simp[hB]
 have hh1:zfd (M.set b (.rich (B.set 0 (zaa (n+1))))) vx cells ne:=by
  rcases hh with hh|⟨vid,o,rfl,ho,hr⟩
  ·exact .inl hh
  ·refine .inr ⟨vid,o,rfl,?_,hr⟩
   rw[xa6 (fun e=>(hvx vid (by simp[AV.refs])).2 e.symm)]
   exact ho
 have hl1:(M.set b (.rich (B.set 0 (zaa (n+1))))).length=M.length:=by simp
 obtain⟨o',ho',hap⟩:∃o',za3 (cells++[x,zae,zaa (n+1)]) o'/\∀e,zaz ⟨M.length,e,M.set b (.rich (B.set 0 (zaa (n+1))))++[zbp [x,zae,zaa (n+1)]]⟩ 3 56 vx (.osl M.length 0 3 1 (some 1))=
   some (.osl (M.length+1) 0 3 (ne+1) none,⟨M.length,e,zc1 (M.set b (.rich (B.set 0 (zaa (n+1))))) vx++[zbp [x,zae,zaa (n+1)],o']⟩):=by
  obtain⟨o',h1,h2⟩:=zry M.length [] (one:=[x,zae,zaa (n+1)]) rfl hh1 (fun id hid=>(hvx id hid).1) hne
  refine⟨o',h1,fun e=>?_⟩
  obtain⟨o2,h3,h4⟩:=zry M.length e (one:=[x,zae,zaa (n+1)]) rfl hh1 (fun id hid=>(hvx id hid).1) hne
  rw[hl1]at h2 h4
  rw[h4]
  obtain⟨f,q1,q2,q3⟩:=zn3 h2
  have h5:=q3 e
  rw[h4]at h5
  simp only[xaf,xay,St.mk.injEq,true_and]at h5
  rw[h5.2]
 refine⟨o',ho',?_⟩
 generalize hK:zc1 (M.set b (.rich (B.set 0 (zaa (n+1))))) vx=K at hap
 have hKb:(K++[zbp [x,zae,zaa (n+1)],o'])[b]?=some (.rich (B.set 0 (zaa (n+1)))):=by
  rw[xac (by rw[<-hK,zmj];simpa using hbl),<-hK,zmi (fun hid=>(hvx b hid).2 rfl)]
  exact hM1
 have hKs:∀y,(K++[zbp [x,zae,zaa (n+1)],o']).set b y=zc1 (M.set b y) vx++[zbp [x,zae,zaa (n+1)],o']:=by
  intro y
  rw[List.set_append_left _ _ (by rw[<-hK,zmj];simpa using hbl),<-hK]
  congr 1
  cases vx with
  |osl i a c d e=>
   have:=(hvx i (by simp[AV.refs])).2
   simp only[zc1]
   rw[List.set_comm _ _ this.symm,List.set_set]
   exact List.set_comm _ _ this
  |_=>simp[zc1]
 rw[zad code ext h]
 have hs0:setAll B 0 [zaa (n+1)]=B.set 0 (zaa (n+1)):=rfl
 have hsf:setAll (B.set 0 (zaa (n+1))) 4 [.osl (M.length+1) 0 3 (ne+1) none]=(B.set 0 (zaa (n+1))).set 4 (.osl (M.length+1) 0 3 (ne+1) none):=rfl
 have hBl:(B.set 0 (zaa (n+1))).length=21:=by simpa using hB
 have hfi:zco [zae,zae,zaa 0] [(0,1,x),(2,1,zaa (n+1))]=some [x,zae,zaa (n+1)]:=by
  simp only[zco,hx];rfl
 have hf2:zco [zae,zae,zaa 0] [(0,3,.agg [x,zae,zaa (n+1)])]=some [x,zae,zaa (n+1)]:=rfl
 simp -implicitDefEqProofs [zi9,hM,hB,h0,e1,hs0,-getElem?_pos,hM1,hB4,hB0,hl1,hfi,hf2,-zco,hap,hKb,hsf,hBl,hKs,-zbp]
theorem z93(h:code 62=some zln)(hM:M[b]?=some (.rich B))(hB:B.length=21){n:Int}(h0:B[0]?=some (zaa n))(hn0:0<=n)(hn:n<=1000000000){vx x:AV}{cells:List AV}{ne:Nat}(h4:B[5]?=some vx)(hh:zfd M vx cells ne)(hne:ne<=1000000000)
  (hx:x.cells=some [x]) (hvx:∀id∈vx.refs,id<M.length/\id≠b):
  ∃o',za3 (cells++[x,zae,zaa (n+1)]) o'/\callW code ext 62 [.optr b 0,x] M=
   some (.tup [],(zc1 (M.set b (.rich ((B.set 0 (zaa (n+1))).set 5 (.osl (M.length+1) 0 3 (ne+1) none)))) vx)++[zbp [x,zae,zaa (n+1)],o']):=by
 have hbl:b<M.length:=(xab.1 hM).1
 have e1:IntKind.wrap .i64 (n+1)=n+1:=zaw (by omega) (by omega)
 have hM1:(M.set b (.rich (B.set 0 (zaa (n+1)))))[b]?=some (.rich (B.set 0 (zaa (n+1)))):=by simp[hbl]
 have hB4:(B.set 0 (zaa (n+1)))[5]?=some vx:=by rw[xa6 (by decide)];exact h4
 have hB0:(B.set 0 (zaa (n+1)))[0]?=some (zaa (n+1)):=by simp[hB]
 have hh1:zfd (M.set b (.rich (B.set 0 (zaa (n+1))))) vx cells ne:=by
  rcases hh with hh|⟨vid,o,rfl,ho,hr⟩
  ·exact .inl hh
  ·refine .inr ⟨vid,o,rfl,?_,hr⟩
   rw[xa6 (fun e=>(hvx vid (by simp[AV.refs])).2 e.symm)]
   exact ho
 have hl1:(M.set b (.rich (B.set 0 (zaa (n+1))))).length=M.length:=by simp
 obtain⟨o',ho',hap⟩:∃o',za3 (cells++[x,zae,zaa (n+1)]) o'/\∀e,zaz ⟨M.length,e,M.set b (.rich (B.set 0 (zaa (n+1))))++[zbp [x,zae,zaa (n+1)]]⟩ 3 56 vx (.osl M.length 0 3 1 (some 1))=
   some (.osl (M.length+1) 0 3 (ne+1) none,⟨M.length,e,zc1 (M.set b (.rich (B.set 0 (zaa (n+1))))) vx++[zbp [x,zae,zaa (n+1)],o']⟩):=by
  obtain⟨o',h1,h2⟩:=zry M.length [] (one:=[x,zae,zaa (n+1)]) rfl hh1 (fun id hid=>(hvx id hid).1) hne
  refine⟨o',h1,fun e=>?_⟩
  obtain⟨o2,h3,h4⟩:=zry M.length e (one:=[x,zae,zaa (n+1)]) rfl hh1 (fun id hid=>(hvx id hid).1) hne
  rw[hl1]at h2 h4
  rw[h4]
  obtain⟨f,q1,q2,q3⟩:=zn3 h2
  have h5:=q3 e
  rw[h4]at h5
  simp only[xaf,xay,St.mk.injEq,true_and]at h5
  rw[h5.2]
 refine⟨o',ho',?_⟩
 generalize hK:zc1 (M.set b (.rich (B.set 0 (zaa (n+1))))) vx=K at hap
 have hKb:(K++[zbp [x,zae,zaa (n+1)],o'])[b]?=some (.rich (B.set 0 (zaa (n+1)))):=by
  rw[xac (by rw[<-hK,zmj];simpa using hbl),<-hK,zmi (fun hid=>(hvx b hid).2 rfl)]
  exact hM1
 have hKs:∀y,(K++[zbp [x,zae,zaa (n+1)],o']).set b y=zc1 (M.set b y) vx++[zbp [x,zae,zaa (n+1)],o']:=by
  intro y
  rw[List.set_append_left _ _ (by rw[<-hK,zmj];simpa using hbl),<-hK]
  congr 1
  cases vx with
  |osl i a c d e=>
   have:=(hvx i (by simp[AV.refs])).2
   simp only[zc1]
   rw[List.set_comm _ _ this.symm,List.set_set]
   exact List.set_comm _ _ this
  |_=>simp[zc1]
 rw[zad code ext h]
 have hs0:setAll B 0 [zaa (n+1)]=B.set 0 (zaa (n+1)):=rfl
 have hsf:setAll (B.set 0 (zaa (n+1))) 5 [.osl (M.length+1) 0 3 (ne+1) none]=(B.set 0 (zaa (n+1))).set 5 (.osl (M.length+1) 0 3 (ne+1) none):=rfl
 have hBl:(B.set 0 (zaa (n+1))).length=21:=by simpa using hB
 have hfi:zco [zae,zae,zaa 0] [(0,1,x),(2,1,zaa (n+1))]=some [x,zae,zaa (n+1)]:=by
  simp only[zco,hx];rfl
 have hf2:zco [zae,zae,zaa 0] [(0,3,.agg [x,zae,zaa (n+1)])]=some [x,zae,zaa (n+1)]:=rfl
 simp -implicitDefEqProofs [zln,hM,hB,h0,e1,hs0,-getElem?_pos,hM1,hB4,hB0,hl1,hfi,hf2,-zco,hap,hKb,hsf,hBl,hKs,-zbp]
end
structure Bk (M:Mem) (b:Nat) (n:Int) (vx:AV) (vc:List AV) (vn:Nat) (ox:AV) (oc:List AV) (on:Nat):Prop where
 B:∃B,M[b]?=some (.rich B)/\B.length=21/\B[0]?=some (zaa n)/\B[4]?=some vx/\B[5]?=some ox/\∀j,1<=j->j<21->j≠4->j≠5->B[j]?=some zae
 v:zfd M vx vc vn
 o:zfd M ox oc on
 vr:∀id∈vx.refs,id<M.length/\id≠b
 or:∀id∈ox.refs,id<M.length/\id≠b
 vo:∀id∈vx.refs,id ∉ ox.refs
theorem zgr{M M':Mem}{x:AV}{c:List AV}{n:Nat}(h:zfd M x c n)(hs:∀id∈x.refs,M'[id]?=M[id]?):zfd M' x c n:=by
 rcases h with h|⟨vid,o,rfl,ho,h⟩
 ·exact .inl h
 ·exact .inr ⟨vid,o,rfl,by rw[hs vid (by simp[AV.refs])];exact ho,h⟩
structure Frm (M M':Mem) (b:Nat) (x:AV):Prop where
 len:M.length<=M'.length
 same:∀id,id<M.length->id≠b->id ∉ x.refs->M'[id]?=M[id]?
section
variable {code:Nat->Option zab} {ext:zac} {M:Mem} {b:Nat} {n:Int} {vx ox x:AV} {vc oc:List AV} {vn on:Nat}
theorem zzb(h:code 64=some zi9)(k:Bk M b n vx vc vn ox oc on)(hn0:0<=n)(hn:n<=1000000000)(hne:vn<=1000000000)(hx:x.cells=some [x]):
  ∃M',callW code ext 64 [.optr b 0,x] M=some (.tup [],M')/\Bk M' b (n+1) (.osl (M.length+1) 0 3 (vn+1) none) (vc++[x,zae,zaa (n+1)]) (vn+1) ox oc on/\Frm M M' b vx/\M.length+1<M'.length:=by
 obtain⟨B,hM,hB,h0,h4,h5,ho⟩:=k.B
 have hbl:b<M.length:=(xab.1 hM).1
 obtain⟨o',hr,hc⟩:=z94 (ext:=ext) h hM hB h0 hn0 hn h4 k.v hne hx k.vr
 generalize hB':(B.set 0 (zaa (n+1))).set 4 (.osl (M.length+1) 0 3 (vn+1) none)=B' at hc
 have hK:(zc1 (M.set b (.rich B')) vx).length=M.length:=by rw[zmj];simp
 have hget:∀id,id<M.length->id≠b->id ∉ vx.refs->(zc1 (M.set b (.rich B')) vx++[zbp [x,zae,zaa (n+1)],o'])[id]?=M[id]?:=fun id h1 h2 h3=>by
  rw[xac (by omega),zmi h3,xa6 (fun e=>h2 e.symm)]
 refine⟨_,hc,⟨⟨B',?_,by rw[<-hB'];simpa using hB,?_,?_,?_,fun j h1 h2 h3 h4'=>?_⟩,.inr ⟨M.length+1,o',rfl,?_,hr,?_,by omega⟩,zgr k.o fun id hid=>hget id (k.or id hid).1 (k.or id hid).2 fun hv=>k.vo id hv hid,fun id hid=>?_,fun id hid=>?_,fun id hid=>?_⟩,⟨?_,hget⟩,?_⟩
 ·rw[xac (by omega),zmi (fun hid=>(k.vr b hid).2 rfl)]
  simp[hbl]
 ·rw[<-hB',xa6 (by decide)];simp[hB]
 ·rw[<-hB'];simp[hB]
 ·rw[<-hB',zsg B 4 _ _ (by decide) (by decide)];exact h5
 ·rw[<-hB',zsg B 4 _ _ (by omega) h3];exact ho j h1 h2 h3 h4'
 ·rw[xag (by omega),hK];simp
 ·have:vc.length=vn*3:=by
   rcases k.v with⟨_,rfl,rfl⟩|⟨_,_,_,_,_,h,_⟩
   ·rfl
   ·exact h
  simp;omega
 ·simp[AV.refs]at hid;subst hid;simp[hK];omega
 ·have:=k.or id hid;simp[hK];omega
 ·simp[AV.refs]at hid;subst hid
  intro hm;have:=(k.or _ hm).1;omega
 ·simp[hK]
 ·simp[hK]
theorem z6v(h:code 62=some zln)(k:Bk M b n vx vc vn ox oc on)(hn0:0<=n)(hn:n<=1000000000)(hne:on<=1000000000)(hx:x.cells=some [x]):
  ∃M',callW code ext 62 [.optr b 0,x] M=some (.tup [],M')/\Bk M' b (n+1) vx vc vn (.osl (M.length+1) 0 3 (on+1) none) (oc++[x,zae,zaa (n+1)]) (on+1)/\Frm M M' b ox/\M.length+1<M'.length:=by
 obtain⟨B,hM,hB,h0,h4,h5,ho⟩:=k.B
 have hbl:b<M.length:=(xab.1 hM).1
 obtain⟨o',hr,hc⟩:=z93 (ext:=ext) h hM hB h0 hn0 hn h5 k.o hne hx k.or
 generalize hB':(B.set 0 (zaa (n+1))).set 5 (.osl (M.length+1) 0 3 (on+1) none)=B' at hc
 have hK:(zc1 (M.set b (.rich B')) ox).length=M.length:=by rw[zmj];simp
 have hget:∀id,id<M.length->id≠b->id ∉ ox.refs->(zc1 (M.set b (.rich B')) ox++[zbp [x,zae,zaa (n+1)],o'])[id]?=M[id]?:=fun id h1 h2 h3=>by
  rw[xac (by omega),zmi h3,xa6 (fun e=>h2 e.symm)]
 refine⟨_,hc,⟨⟨B',?_,by rw[<-hB'];simpa using hB,?_,?_,?_,fun j h1 h2 h3 h4'=>?_⟩,zgr k.v fun id hid=>hget id (k.vr id hid).1 (k.vr id hid).2 fun hv=>k.vo id hid hv,.inr ⟨M.length+1,o',rfl,?_,hr,?_,by omega⟩,fun id hid=>?_,fun id hid=>?_,fun id hid=>?_⟩,⟨?_,hget⟩,?_⟩
 ·rw[xac (by omega),zmi (fun hid=>(k.or b hid).2 rfl)]
  simp[hbl]
 ·rw[<-hB',xa6 (by decide)];simp[hB]
 ·rw[<-hB',zsg B 5 _ _ (by decide) (by decide)];exact h4
 ·rw[<-hB'];simp[hB]
 ·rw[<-hB',zsg B 5 _ _ (by omega) h4'];exact ho j h1 h2 h3 h4'
 ·rw[xag (by omega),hK];simp
 ·have:oc.length=on*3:=by
   rcases k.o with⟨_,rfl,rfl⟩|⟨_,_,_,_,_,h,_⟩
   ·rfl
   ·exact h
  simp;omega
 ·have:=k.vr id hid;simp[hK];omega
 ·simp[AV.refs]at hid;subst hid;simp[hK];omega
 ·have:=k.vr id hid
  simp[AV.refs];omega
 ·simp[hK]
 ·simp[hK]
theorem z6w(k:Bk M b n vx vc vn ox oc on)(o:AObj):Bk (M++[o]) b n vx vc vn ox oc on:=by
 obtain⟨B,hM,h⟩:=k.B
 have hbl:b<M.length:=(xab.1 hM).1
 have hg:∀id,id<M.length->(M++[o])[id]?=M[id]?:=fun id hid=>xac hid
 exact⟨⟨B,by rw[hg b hbl];exact hM,h⟩,zgr k.v fun id hid=>hg id (k.vr id hid).1,zgr k.o fun id hid=>hg id (k.or id hid).1,fun id hid=>⟨by have:=(k.vr id hid).1;simp;omega,(k.vr id hid).2⟩,fun id hid=>⟨by have:=(k.or id hid).1;simp;omega,(k.or id hid).2⟩,k.vo⟩
theorem z4y(h:code 14=some zj1){M':Mem}{B':List AV}(hb:M'[b]?=some (.rich B'))(hc:callW code ext 64 [.optr b 0,x] M=some (.tup [],M')):callW code ext 14 [.optr b 0,x] M=some (.tup [],M'):=by
 rw[zad code ext h]
 simp -implicitDefEqProofs [zj1,hc]
theorem z6x(h9:code 9=some x9W)(h14:code 14=some zj1)(h64:code 64=some zi9)(k:Bk M b n vx vc vn ox oc on)(hn0:0<=n)(hn:n<=1000000000)(hne:vn<=1000000000){c0 c1 c3 c4:AV}(hx:x.cells=some [x]):
  ∃M',callW code ext 9 [.optr b 0,.agg [c0,c1,x,c3,c4]] M=some (.tup [],M')/\Bk M' b (n+1) (.osl (M.length+2) 0 3 (vn+1) none) (vc++[x,zae,zaa (n+1)]) (vn+1) ox oc on/\Frm M M' b vx/\M.length+2<M'.length:=by
 obtain⟨M',h1,h2,h3,h4⟩:=zzb (ext:=ext) h64 (z6w k (.rich [c0,c1,x,c3,c4])) hn0 hn hne hx
 obtain⟨B',hB',_⟩:=h2.B
 have h5:=z4y (ext:=ext) h14 hB' h1
 simp only[xak,xax,xaz,xaw,xb4,Nat.reduceAdd]at h2 h4
 refine⟨M',?_,h2,⟨by omega,fun id q1 q2 q3=>?_⟩,h4⟩
 ·rw[zad code ext h9]
  simp -implicitDefEqProofs [x9W,h5]
 ·rw[h3.same id (by simp;omega) q2 q3,xac q1]
end
structure RO where
 k:AV
 s:AV
 l:AV
 r:AV
 f:AV
def RO.cells(o:RO):List AV:=[o.k,o.s,o.l,o.r,o.f]
def zav(L:List RO):List AV:=L.flatMap RO.cells
def zhz(n:Int):List AV->List AV
 |[]=>[]
 |x::r=>[x,zae,zaa (n+1)]++zhz (n+1) r
theorem z1g:∀(l:List AV) (n:Int) (x:AV),zhz n (l++[x])=zhz n l++[x,zae,zaa (n+l.length+1)]
 |[],n,x=>by simp[zhz]
 |y::r,n,x=>by
  simp only[xbo,zhz,z1g r,xax,xbj]
  have:n+1+(r.length:Int)+1=n+((r.length+1:Nat):Int)+1:=by omega
  rw[this]
theorem zi3:∀L:List RO,(zav L).length=L.length*5
 |[]=>rfl
 |o::r=>by
  have:=zi3 r
  unfold zav at *
  simp only[xct,xak,this,xax]
  simp[RO.cells];omega
theorem z3j:∀(L:List RO) (i:Nat) (o:RO),L[i]?=some o->cut (zav L) (i*5) 5=some o.cells
 |[],i,o,h=>by simp at h
 |p::r,0,o,h=>by
  simp at h;subst h
  simp[zav,RO.cells,cut]
 |p::r,i+1,o,h=>by
  have h1:=z3j r i o (by simpa using h)
  have e:(i+1)*5=p.cells.length+i*5:=by simp[RO.cells];omega
  have hr:zav (p::r)=p.cells++zav r:=rfl
  unfold cut at *
  rw[hr,e,List.drop_append,xcs (by omega),xa7,xbq]
  exact h1
theorem ygf(L:List RO)(rest:List AV)(i:Nat)(o:RO)(h:L[i]?=some o):cut (zav L++rest) (i*5) 5=some o.cells:=by
 have h1:=z3j L i o h
 have hi:=(xab.1 h).1
 have hl:=zi3 L
 unfold cut at *
 dsimp only at *
 rw[List.drop_append_of_le_length (by omega),List.take_append_of_le_length (by rw[List.length_drop];omega)]
 exact h1
theorem zmy{M:Mem}{sid off n:Nat}{o:AObj}{cells c:List AV}(hM:M[sid]?=some o)(h:za3 cells o)(hc:cut cells off n=some c):loadAt M (some n) (.optr sid off)=some (.agg c):=by
 rcases h with rfl|⟨cs,rfl,rfl⟩
 ·simp only[loadAt,hM,zdw,hc,xao]
 ·have:cut (cs.map AV.imm) off n=(cut cs off n).map (·.map AV.imm):=by
   simp only[cut,<-List.map_drop,<-List.map_take,xam]
   split<;>rfl
  rw[this]at hc
  simp only[loadAt,hM,zf9]
  cases hq:cut cs off n with
  |none=>rw[hq]at hc;cases hc
  |some r=>rw[hq]at hc;cases hc;rfl
theorem zi4{cells:List AV}{o:AObj}(h:za3 cells o):o.moved=false:=by
 rcases h with rfl|⟨cs,rfl,_⟩<;>rfl
section
variable {code:Nat->Option zab} {ext:zac} {M:Mem} {b:Nat} {n:Int} {vx ox x:AV} {vc oc:List AV} {vn on:Nat}
structure zyy (M M':Mem) (b:Nat) (vx vx':AV):Prop where
 len:M.length<=M'.length
 same:∀id,id<M.length->id≠b->id ∉ vx.refs->M'[id]?=M[id]?
 new:∀id∈vx'.refs,id∈vx.refs\/M.length<=id
theorem yee(h9:code 9=some x9W)(h14:code 14=some zj1)(h64:code 64=some zi9)(k:Bk M b n vx vc vn ox oc on){L:List RO}(hL:L.length<=100000000)(hn0:0<=n)(hn:n<=100000000)(hne:vn<=100000000)
  (hl:∀o∈L,o.l.cells=some [o.l]) {sid:Nat} {cap:Option Nat} {o:AObj} (hs:M[sid]?=some o) {rest:List AV} (hr:za3 (zav L++rest) o) (hsb:sid≠b) (hsv:sid ∉ vx.refs) {s:St}
  (hst:s.tidy [1000000,0,1,4]=⟨M.length,[(1000000,.junk),(0,.optr b 0),(1,.osl sid 0 5 L.length cap),(4,zaa 0)],M⟩):
  ∃e s',den code ext (.loop [1000000,0,1,4] zsv) s=some (e,s')/\e≠ .normal/\
   (e=.exit 0/\∃M' vx',s'=⟨M.length,[(0,.optr b 0),(1,.osl sid 0 5 L.length cap),(4,zaa L.length),(8,avb false)],M'⟩/\Bk M' b (n+L.length) vx' (vc++zhz n (L.map (·.l))) (vn+L.length) ox oc on/\zyy M M' b vx vx'):=by
 refine zbu (fun m s=>∃(i:Nat) (Mi:Mem) (vi:AV),i+m=L.length/\s.tidy [1000000,0,1,4]=⟨M.length,[(1000000,.junk),(0,.optr b 0),(1,.osl sid 0 5 L.length cap),(4,zaa (i:Nat))],Mi⟩/\
  Bk Mi b (n+i) vi (vc++zhz n ((L.take i).map (·.l))) (vn+i) ox oc on/\zyy M Mi b vx vi) _ ?_ L.length _ ⟨0,M,vx,by simp,by simpa using hst,by simpa [zhz]using k,⟨xap _,fun _ _ _ _=>rfl,fun id h=>.inl h⟩⟩
 clear hst
 rintro m s ⟨i,Mi,vi,hi,hst,ki,ti⟩
 rw[hst]
 have hsl:sid<M.length:=(xab.1 hs).1
 have hsi:Mi[sid]?=some o:=by rw[ti.same sid hsl hsb hsv];exact hs
 by_cases hlt:i<L.length
 ·have hgi:=xaa hlt
  have htk:(L.take (i+1)).map (·.l)=(L.take i).map (·.l)++[L[i].l]:=by rw[xbg,hgi,xcj];rfl
  have hld:=zmy hsi hr (ygf L rest i _ hgi)
  have hxl:=hl _ (xa8 hlt)
  generalize L[i]=w at hld hxl htk
  obtain⟨wk,ws,wl,wr,wf⟩:=w
  simp only[RO.cells]at hld hxl htk
  obtain⟨Mn,c1,kn,fn,ln⟩:=z6x (ext:=ext) h9 h14 h64 ki (c0:=wk) (c1:=ws) (c3:=wr) (c4:=wf) (by omega) (by omega) (by omega) hxl
  have hsi':sid ∉ vi.refs:=fun hm=>by
   rcases ti.new sid hm with h|h
   ·exact hsv h
   ·omega
  have hsn:Mn[sid]?=some o:=by rw[fn.same sid (by have:=ti.len;omega) hsb hsi'];exact hsi
  obtain⟨Bn,hbn,_⟩:=kn.B
  have hmo:=zi4 hr
  have e1:IntKind.wrap .i64 ((i:Int)+1)=(i:Int)+1:=zaw (by omega) (by omega)
  have hlt':(i:Int)<L.length:=by omega
  refine⟨.normal,⟨M.length,[(0,.optr b 0),(1,.osl sid 0 5 L.length cap),(4,zaa ((i:Int)+1))],Mn⟩,?_,.inl ⟨rfl,m-1,by omega,i+1,Mn,.osl (Mi.length+2) 0 3 (vn+i+1) none,by omega,?_,?_,?_⟩⟩
  ·have hmb:(AObj.rich Bn).moved=false:=rfl
   simp -implicitDefEqProofs [zsv,hlt',hld,-loadAt,c1,hbn,hsn,hmo,hmb,-AObj.moved,e1]
  ·simp -implicitDefEqProofs []
  ·rw[htk,z1g,<-List.append_assoc]
   have q1:((L.take i).map (·.l)).length=i:=by rw[xam,xb7];omega
   rw[q1]
   have q2:n+((i+1:Nat):Int)=n+i+1:=by omega
   rw[q2]
   exact kn
  ·have:=ti.len
   refine⟨by have:=fn.len;omega,fun id q1 q2 q3=>?_,fun id hid=>.inr ?_⟩
   ·rw[fn.same id (by omega) q2 fun hm=>?_]
    ·exact ti.same id q1 q2 q3
    ·rcases ti.new id hm with h|h
     ·exact q3 h
     ·omega
   ·simp[AV.refs]at hid;omega
 ·have:i=L.length:=by omega
  subst this
  refine⟨.exit 0,⟨M.length,[(0,.optr b 0),(1,.osl sid 0 5 L.length cap),(4,zaa L.length),(8,avb false)],Mi⟩,?_,.inr ⟨by simp,rfl,Mi,vi,rfl,by rw[xbp]at ki;exact ki,ti⟩⟩
  simp -implicitDefEqProofs [zsv]
theorem z6y(h12:code 12=some zp5)(h10:code 10=some zp4)(h62:code 62=some zln)(h9:code 9=some x9W)(h14:code 14=some zj1)(h64:code 64=some zi9)(k:Bk M b n vx vc vn ox oc on){L:List RO}(hL:L.length<=100000000)(hn0:0<=n)(hn:n<=100000000)(hne:vn<=100000000)(hno:on<=100000000)
  (hl:∀o∈L,o.l.cells=some [o.l]) {sid:Nat} {cap:Option Nat} {o:AObj} (hs:M[sid]?=some o) {rest:List AV} (hr:za3 (zav L++rest) o) (hsb:sid≠b) (hsv:sid ∉ vx.refs) (hso:sid ∉ ox.refs):
  ∃M' vx' id',callW code ext 12 [.optr b 0,.osl sid 0 5 L.length cap] M=some (.tup [],M')/\Bk M' b (n+L.length+1) vx' (vc++zhz n (L.map (·.l))) (vn+L.length) (.osl id' 0 3 (on+1) none) (oc++[.osl sid 0 5 L.length cap,zae,zaa (n+L.length+1)]) (on+1)/\
   (M.length<=M'.length/\M.length<=id'/\(∀id∈vx'.refs,id∈vx.refs\/M.length<=id)/\∀id,id<M.length->id≠b->id ∉ vx.refs->id ∉ ox.refs->M'[id]?=M[id]?):=by
 obtain⟨B,hM,_⟩:=k.B
 have hsl:sid<M.length:=(xab.1 hs).1
 obtain⟨e,s',h1,_,rfl,M1,v1,rfl,k1,t1⟩:=yee (ext:=ext) h9 h14 h64 k hL hn0 hn hne hl (cap:=cap) hs hr hsb hsv (s:=⟨M.length,[(0,.optr b 0),(1,.osl sid 0 5 L.length cap),(4,zaa 0)],M⟩) (by simp -implicitDefEqProofs [])
 obtain⟨M2,c2,k2,f2,l2⟩:=z6v (ext:=ext) h62 k1 (x:=.osl sid 0 5 L.length cap) (by omega) (by omega) (by omega) rfl
 have h3:callW code ext 10 [.optr b 0,.osl sid 0 5 L.length cap] M=some (.tup [],M2):=by
  rw[zad code ext h10]
  simp -implicitDefEqProofs [zp4,h1,c2]
 refine⟨M2,v1,M1.length+1,?_,k2,by have:=t1.len;omega,by have:=t1.len;omega,t1.new,fun id q1 q2 q3 q4=>?_⟩
 ·rw[zad code ext h12]
  simp -implicitDefEqProofs [zp5,h3]
 ·rw[f2.same id (by have:=t1.len;omega) q2 q4]
  exact t1.same id q1 q2 q3
end
theorem yiz:ztj=zct 2 4 420:=rfl
theorem yiy:ztb=zct 5 5 414:=rfl
theorem yi7:zub=zcu 2 16 [(.int .u8 0),(.int .i64 0)] 4 420:=rfl
theorem yi5:zt5=zcu 5 64 [(.int .u8 0),(.string .empty),(.slice none 0 0),(.int .i64 0),(.int .i64 0)] 5 414:=rfl
theorem yjq:zuw=zc8 2 4 400:=rfl
theorem yjn:zus=zc8 5 5 394:=rfl
theorem zsf{β:Type}(A B C D:List β)(h:B.length=D.length){k:Nat}(hk:A.length=k):setAll (A++(B++C)) k D=A++(D++C):=by
 subst hk
 refine xbf fun j=>?_
 rw[zsb _ _ _ _ (by simp only[xak];omega)]
 simp only[List.getElem?_append]
 by_cases h1:j<A.length
 ·rw[if_neg (by omega),if_pos h1,if_pos h1]
 ·by_cases h2:j-A.length<D.length
  ·rw[if_pos (by omega),if_neg h1,if_pos h2]
  ·rw[if_neg (by omega),if_neg h1,if_neg h1,if_neg (by omega),if_neg h2,h]
theorem zjg{β:Type}(l:List β):∀n,zaq n l++l=zaq (n+1) l
 |0=>by simp[zaq]
 |n+1=>by
  have:=zjg l n
  rw[zaq,xbj,this];rfl
theorem zl5{β:Type}(l:List β):∀n,(zaq n l).length=n*l.length
 |0=>by simp[zaq]
 |n+1=>by rw[zaq,xak,zl5 l n,Nat.add_mul,xc4,Nat.add_comm]
theorem yha{M:Mem}{id:Nat}{o:AObj}(h:M[id]?=some o):M.set id o=M:=by
 refine xbf fun j=>?_
 by_cases hj:id=j
 ·subst hj
  rw[xcf (xab.1 h).1,h]
 ·rw[xa6 hj]
theorem zsd:∀(ys l:List IV) (k:Nat),setAll (l.map AV.imm) k (ys.map AV.imm)=(setAll l k ys).map AV.imm
 |[],l,k=>rfl
 |y::ys,l,k=>by simp only[xa4,setAll,<-List.map_set,zsd ys]
theorem z3n{M:Mem}{id off:Nat}{o:AObj}{cells:List AV}{xs:List IV}(hM:M[id]?=some o)(h:za3 cells o)(hl:off+xs.length<=cells.length):
  ∃o',za3 (setAll cells off (xs.map .imm)) o'/\storeAt M (.optr id off) (xs.map .imm)=some (M.set id o'):=by
 rcases h with rfl|⟨cs,rfl,rfl⟩
 ·exact⟨_,.inl rfl,by simp only[storeAt,hM,xam];rw[if_pos hl]⟩
 ·refine⟨.flat (setAll cs off xs) false,.inr ⟨_,rfl,zsd xs cs off⟩,?_⟩
  rw[xam]at hl
  simp only[storeAt,hM,z1k]
  rw[if_pos hl]
def KX(M:Mem)(sz:Nat)(x:AV)(len:Nat)(cells:List AV):Prop:=
 (∃rid c ob,x=.osl rid 0 sz len (some c)/\M[rid]?=some ob/\za3 cells ob/\cells.length=c*sz/\len<=c/\c<=len+1)\/(len=0/\cells=[]/\(x=zae\/∃row off,x=.imm (.slice row off 0 (some 0))))
structure KE where
 x:AV
 lg:AV
 n:Int
 len:Nat
 cells:List AV
def KE.c3(e:KE):List AV:=[e.x,e.lg,zaa e.n]
def zcn(E:List KE):List AV:=E.flatMap KE.c3
def za2(E:List KE):List Nat:=E.flatMap fun e=>e.x.refs
theorem z0c:∀E:List KE,(zcn E).length=E.length*3
 |[]=>rfl
 |e::r=>by
  have:=z0c r
  unfold zcn at *
  simp only[xct,xak,this,xax]
  simp[KE.c3];omega
theorem zq6:∀(E:List KE) (i:Nat) (e:KE),E[i]?=some e->cut (zcn E) (i*3) 3=some e.c3
 |[],i,o,h=>by simp at h
 |p::r,0,o,h=>by
  simp at h;subst h
  simp[zcn,KE.c3,cut]
 |p::r,i+1,o,h=>by
  have h1:=zq6 r i o (by simpa using h)
  have e:(i+1)*3=p.c3.length+i*3:=by simp[KE.c3];omega
  have hr:zcn (p::r)=p.c3++zcn r:=rfl
  unfold cut at *
  rw[hr,e,List.drop_append,xcs (by omega),xa7,xbq]
  exact h1
theorem zwi{M:Mem}{sz len:Nat}{x:AV}{cells:List AV}(h:KX M sz x len cells):lenOf x=some len:=by
 rcases h with⟨rid,c,ob,rfl,_⟩|⟨rfl,_,rfl|⟨row,off,rfl⟩⟩<;>rfl
theorem zdn{M M':Mem}{sz len:Nat}{x:AV}{cells:List AV}(h:KX M sz x len cells)(hs:∀id∈x.refs,M'[id]?=M[id]?):KX M' sz x len cells:=by
 rcases h with⟨rid,c,ob,rfl,ho,hr⟩|h
 ·exact .inl ⟨rid,c,ob,rfl,by rw[hs rid (by simp[AV.refs])];exact ho,hr⟩
 ·exact .inr h
theorem zee{M:Mem}{sz len:Nat}{x:AV}{cells:List AV}(h:KX M sz x len cells):∀id∈x.refs,id<M.length:=by
 intro id hid
 rcases h with⟨rid,c,ob,rfl,ho,hr⟩|⟨_,_,rfl|⟨row,off,rfl⟩⟩
 ·simp[AV.refs]at hid;subst hid;exact(xab.1 ho).1
 ·simp[AV.refs]at hid
 ·simp[AV.refs]at hid
section
variable {code:Nat->Option zab} {ext:zac}
theorem z83{sz f mk:Nat}{n:Int}{ms:List IV}(hmk:∀s,zbl (callW code ext) s mk [zaa n]=some (.agg (ms.map .imm),s))(hms:ms.length=sz){K b h rid len:Nat}{j:Int}{M:Mem}{lg:AV}{cap:Option Nat}{ob:AObj}{cells:List AV}
  (hh:M[h]?=some (.rich [.osl rid 0 sz len cap,lg,zaa n])) (hrh:rid≠h) (ho:M[rid]?=some ob) (hr:za3 cells ob) (hl:len*sz<=cells.length) (hb:len<=1000000000) {s:St}
  (hst:s.tidy [1000000,0,2,3,4]=⟨K,[(1000000,.junk),(0,.optr b 0),(2,zaa j),(3,.optr h 0),(4,zaa 0)],M⟩):
  ∃e s',den code ext (.loop [1000000,0,2,3,4] (zku sz f mk)) s=some (e,s')/\e≠ .normal/\
   (e=.exit 2/\∃ob',za3 (zaq len (ms.map AV.imm)++cells.drop (len*sz)) ob'/\s'=⟨K,[(0,.optr b 0),(2,zaa j),(3,.optr h 0),(4,zaa len),(25,avb false)],M.set rid ob'⟩):=by
 refine zbu (fun m s=>∃(k:Nat) (obk:AObj),k+m=len/\za3 (zaq k (ms.map AV.imm)++cells.drop (k*sz)) obk/\s.tidy [1000000,0,2,3,4]=⟨K,[(1000000,.junk),(0,.optr b 0),(2,zaa j),(3,.optr h 0),(4,zaa (k:Nat))],M.set rid obk⟩) _ ?_ len _
  ⟨0,ob,by simp,by simpa [zaq]using hr,by rw[yha ho];simpa using hst⟩
 clear hst
 rintro m s ⟨k,obk,hk,hrk,hst⟩
 rw[hst]
 have hrl:rid<M.length:=(xab.1 ho).1
 have hMh:(M.set rid obk)[h]?=some (.rich [.osl rid 0 sz len cap,lg,zaa n]):=by rw[xa6 hrh];exact hh
 have hMr:(M.set rid obk)[rid]?=some obk:=by simp[hrl]
 have l0:loadAt (M.set rid obk) none (.optr h 0)=some (.osl rid 0 sz len cap):=by simp only[loadAt,hMh];rfl
 have l2:loadAt (M.set rid obk) none (.optr h 2)=some (zaa n):=by simp only[loadAt,hMh];rfl
 by_cases hlt:k<len
 ·have e1:IntKind.wrap .i64 ((k:Int)+1)=(k:Int)+1:=zaw (by omega) (by omega)
  have hlt':(k:Int)<len:=by omega
  have hmul:(k+1)*sz<=cells.length:=xb1 (xb6 _ hlt) hl
  have hks:(k+1)*sz=k*sz+sz:=by rw[Nat.add_mul,xc4]
  have hcl:(zaq k (ms.map AV.imm)).length=k*sz:=by rw[zl5,xam,hms]
  obtain⟨o2,hr2,hs2⟩:=z3n (xs:=ms) (off:=k*sz) hMr hrk (by rw[xak,hcl,List.length_drop,hms];omega)
  rw[List.set_set]at hs2
  have hsp:cells.drop (k*sz)=(cells.drop (k*sz)).take sz++cells.drop ((k+1)*sz):=by
   rw[hks,<-List.drop_drop,List.take_append_drop]
  rw[hsp,zsf _ _ _ _ (by rw[xam,xb7,List.length_drop,hms];omega) hcl,<-List.append_assoc,zjg]at hr2
  refine⟨.normal,⟨K,[(0,.optr b 0),(2,zaa j),(3,.optr h 0),(4,zaa ((k:Int)+1))],M.set rid o2⟩,?_,.inl ⟨rfl,m-1,by omega,k+1,o2,by omega,hr2,?_⟩⟩
  ·simp -implicitDefEqProofs [zku,l0,l2,-loadAt,hlt',hmk,-zbl,hms,hs2,-storeAt,e1]
  ·simp -implicitDefEqProofs []
 ·have:k=len:=by omega
  subst this
  refine⟨.exit 2,⟨K,[(0,.optr b 0),(2,zaa j),(3,.optr h 0),(4,zaa k),(25,avb false)],M.set rid obk⟩,?_,.inr ⟨by simp,rfl,obk,hrk,rfl⟩⟩
  simp -implicitDefEqProofs [zku,l0,-loadAt]
end
section
variable {num:Names} {P:Program}
variable {call:zac} {N:Nat} {ops:Array Oper} {xs:List XO} {n:Nat} {s0 sF:St} {S:Nat->St} {sp:Nat->Bool}
def ya9(es:List (Value×Value)):AObj:=.map (es.map fun p=>(.imm (.val p.1),.imm (.val p.2)))
structure Box (C0:Cx) (m0:Mem) (D:Cx) (m:Mem) (b:Nat) (es:List (Value×Value)):Prop where
 own0:C0.w.heap.size<=b\/Own C0 m0 b
 lt:b<D.w.heap.size
 row:∃(es':Array MapEntry) (clk:Nat),D.w.heap[b]?=some (.map es' clk)/\es'.size=es.length/\∀(j:Nat) p x,es[j]?=some p->es'[j]?=some x->x.key=p.1/\x.val=p.2
 imm:¬D.I b
 no:¬Own D m b
 one:∀p∈es,p.1.oneCell'=true/\p.2.oneCell'=true
theorem Box.keep{C0 D E:Cx}{m0 m m':Mem}{b k:Nat}{es:List (Value×Value)}(B:Box C0 m0 D m b es)(h:Step num k D m E m'):Box C0 m0 E m' b es:=by
 refine⟨B.own0,xbz B.lt h.size,?_,fun hI=>?_,fun ho=>?_,B.one⟩
 ·obtain⟨es',clk,h1,h2⟩:=B.row
  exact⟨es',clk,by rw[h.keep b B.lt B.no];exact h1,h2⟩
 ·rcases h.imm' b hI with h1|h1|h1
  ·exact B.imm h1
  ·have:=B.lt;omega
  ·exact B.no h1
 ·rcases h.own b ho with h1|h1
  ·have:=B.lt;omega
  ·exact B.no h1
def ov(t:St)(q:Nat)(es:List (Value×Value)):St:={ k:=t.k,env:=(q,.omap t.mem.length)::t.env,mem:=t.mem++[ya9 es] }
theorem zrx{n id:Nat}(h:id<n):place (List.range n) id=some id:=zhg _ _ _ List.nodup_range (by simp[h])
end
set_option maxRecDepth 100000
def zlh:zab:=
 ⟨[.cell 2 (some 5)],(.seq (.region [1,2] [o0 1 (.box 5 (.t 0)),
 o0 2 (.alloc [(.int .u8 0),(.string .empty),(.slice none 0 0),(.int .i64 0),(.int .i64 0)])]) (.seq (.region [2] [o5 3 0 1,o4 4 3,o5 5 1 1,o4 6 5,o5 7 2 1,o4 8 7,
 o0 9 (.call .own 379 [.t 8]),o5 10 3 1,o4 11 10,o5 12 4 1,o4 13 12,
 o0 14 (.build [(.int .u8 0),(.string .empty),(.slice none 0 0),(.int .i64 0),(.int .i64 0)] [(0,1,(.t 4)),(1,1,(.t 6)),(2,1,(.t 9)),(3,1,(.t 11)),(4,1,(.t 13))]),
 o2 (.store 5 (.t 2) (.t 14))]) .ret))⟩
def ztn:XCode:=
 (.seq (.seq (.region [0,3,4,12] [o3 9 4,o3 10 0,o8 11 10,
 o0 12 (.bin .lss (.t 9) (.t 11))]) (.cond (.t 12) .skip (.exit 0))) (.seq (.block 1 (.region [0,3,4] [o3 15 3,o3 16 0,o3 17 4,
 o0 18 (.idxA 5 (.t 16) (.t 17)),o6 19 5 18,
 o0 20 (.call .own 372 [.t 19]),
 o0 21 (.buildSlice 5 [(.int .u8 0),(.string .empty),(.slice none 0 0),(.int .i64 0),(.int .i64 0)] 1 [(0,5,(.t 20))]),
 o0 22 (.append 5 64 (.t 15) (.t 21)),o3 3 22])) (.region [0,3,4] [o3 13 4,
 o0 14 (.bin .add (.t 13) (.c (.int .i64 1))),o3 4 14])))
def zqh:zab:=
 ⟨[.tmp 2],(.seq (.region [0] [o0 2 (.mv (.c (.slice none 0 0)))]) (.seq (.region [0,3] [o3 5 0,o8 6 5,
 o0 7 (.bin .add (.t 6) (.c (.int .i64 1))),
 o0 8 (.makeSlice 5 64 [(.int .u8 0),(.string .empty),(.slice none 0 0),(.int .i64 0),(.int .i64 0)] (.c (.int .i64 0)) (.t 7)),o3 3 8]) (.seq (.seq (.region [0,3,4] [o0 4 (.mv (.c (.int .i64 0)))]) (.block 0 (.loop [0,3,4] ztn))) (.seq (.region [2] [o3 23 3,
 o0 24 (.build [(.int .u8 0),(.string .empty),(.slice none 0 0),(.int .i64 0),(.int .i64 0)] [(1,1,(.c (.string ⟨#[115,112,97,114,101]⟩)))]),
 o0 25 (.buildSlice 5 [(.int .u8 0),(.string .empty),(.slice none 0 0),(.int .i64 0),(.int .i64 0)] 1 [(0,5,(.t 24))]),
 o0 26 (.append 5 64 (.t 23) (.t 25)),o3 27 0,o8 28 27,
 o0 29 (.slice 5 (.t 26) none (some (.t 28))),o3 2 29]) .ret))))⟩
theorem zrz(m:Mem):∀(todo:List Nat) (fuel:Nat) (acc:List Nat),todo.length<=fuel->(∀t∈todo,t<m.length/\((m[t]?).getD .dead).refs=[]/\t ∉ acc)->todo.Nodup->reach m fuel todo acc=acc++todo
 |[],fuel,acc,_,_,_=>by cases fuel<;>simp[reach]
 |t::r,0,acc,h,_,_=>by simp at h
 |t::r,fuel+1,acc,h,h1,h2=>by
  obtain⟨a,b,c⟩:=h1 t (xbh ..)
  rw[List.nodup_cons]at h2
  rw[reach,if_neg c,if_pos a,b,xas,zrz m r fuel (acc++[t]) (by simpa using h) (fun x hx=>?_) h2.2]
  ·simp
  ·obtain⟨d,e,f⟩:=h1 x (xbc _ hx)
   refine⟨d,e,fun hm=>?_⟩
   rw[xaj,xav]at hm
   rcases hm with hm|rfl
   ·exact f hm
   ·exact h2.1 hx
structure zjc (o:AObj) (los:List AObj):Prop where
 refs:o.refs=(List.range los.length).map (· +1)
 flat:∀l∈los,∃cs mv,l=.flat cs mv
theorem z3s{o:AObj}{los junk:List AObj}(h:zjc o los)(hl:los.length<=10000000):order 0 [0] (o::(los++junk))=List.range (los.length+1):=by
 have h1:List.range (los.length+1)=0::(List.range los.length).map (· +1):=by
  rw[List.range_succ_eq_map]
 unfold order
 rw[h1]
 simp only[xcr,Mem.refs,xas,List.range_zero]
 rw[show(1000000000000:Nat)=999999999999+1 from rfl,reach]
 simp only[List.not_mem_nil,if_false,xax,Nat.zero_lt_succ,if_true,xbw,xa0,h.refs,xa7]
 rw[zrz]
 ·rfl
 ·simp;omega
 ·intro t ht
  simp only[xbd,xa9]at ht
  obtain⟨i,hi,rfl⟩:=ht
  refine⟨by simp;omega,?_,by simp⟩
  rw[xba,xac hi,xaa hi]
  obtain⟨cs,mv,e⟩:=h.flat _ (xa8 hi)
  rw[xa0,e];rfl
 ·refine(List.pairwise_map.2 ?_)
  exact List.nodup_range.imp fun h e=>h (by omega)
theorem z3r{o:AObj}{los junk:List AObj}(h:zjc o los):Mem.pickAll (o::(los++junk)) (List.range (los.length+1))=o::los:=by
 have hp:∀id,id<los.length+1->place (List.range (los.length+1)) id=some id:=fun id hid=>zrx hid
 unfold Mem.pickAll
 rw[List.range_succ_eq_map,xa4,<-List.range_succ_eq_map]
 simp only[xbw,xa0,xc3]
 congr 1
 ·refine zhe fun id hid=>hp id ?_
  rw[h.refs]at hid
  simp only[xbd,xa9]at hid
  obtain⟨i,hi,rfl⟩:=hid
  omega
 ·refine List.ext_getElem (by simp) fun j h1 h2=>?_
  simp only[List.getElem_map,List.getElem_range,Function.comp,xba]
  rw[xac h2,xaa h2,xa0]
  obtain⟨cs,mv,e⟩:=h.flat _ (xa8 h2)
  rw[e];rfl
theorem yhw{o:AObj}{los junk:List AObj}(h:zjc o los)(hl:los.length<=10000000)(e:Env)(keep:List Nat)(hka:zwg keep=false)(hr:(e.keep keep).roots=[0])(hren:∀f:Nat->Option Nat,f 0=some 0->(e.keep keep).ren f=e.keep keep):
  St.tidy ⟨0,e,o::(los++junk)⟩ keep=⟨0,e.keep keep,o::los⟩:=by
 unfold St.tidy
 simp only[xax]
 rw[if_neg (by omega),if_neg (by rw[hka];decide),hr,z3s h hl,z3r h,hren _ (zrx (by omega))]
theorem z10{o:AObj}{los junk:List AObj}(h:zjc o los)(hl:los.length<=10000000):order 0 [0] (o::(los++junk))=List.range (los.length+1)/\Mem.pickAll (o::(los++junk)) (List.range (los.length+1))=o::los:=
 ⟨z3s h hl,z3r h⟩
def zfo(j:Nat)(o:Obj):RO:=⟨.imm (.val (.int .u8 o.k)),.imm (.val (.string o.s)),.osl j 0 2 o.l.xs.length (some (o.l.xs.length+1)),zaa o.room,zaa o.fn⟩
def twR:Nat->List Obj->List RO
 |_,[]=>[]
 |j,o::r=>zfo j o::twR (j+1) r
def zeu:List AV:=[.imm (.val (.int .u8 0)),.imm (.val (.string .empty)),zae,zaa 0,zaa 0]
def zgy:List AV:=[.imm (.val (.int .u8 0)),.imm (.val (.string ⟨#[115,112,97,114,101]⟩)),zae,zaa 0,zaa 0]
def zcw(o:Obj):AObj:=.flat (tVal.row (o.l.xs++[zby])) false
theorem zpw:∀(S:List Obj) (j:Nat),(twR j S).length=S.length
 |[],j=>rfl
 |o::r,j=>by simp[twR,zpw r]
theorem z4n:∀(S:List Obj) (j:Nat) (o:Obj),twR j (S++[o])=twR j S++[zfo (j+S.length) o]
 |[],j,o=>by simp[twR]
 |g::r,j,o=>by
  simp only[xbo,twR,z4n r,xax]
  have:j+1+r.length=j+(r.length+1):=by omega
  rw[this]
theorem zxi(L:List RO)(o:RO):zav (L++[o])=zav L++o.cells:=by simp[zav]
theorem zk5:∀(a b:List AV),AV.refs.refsL (a++b)=AV.refs.refsL a++AV.refs.refsL b
 |[],b=>rfl
 |x::a,b=>by simp only[xbo,AV.refs.refsL,zk5 a b,xbj]
theorem zsr:∀(S:List Obj) (j:Nat),AV.refs.refsL (zav (twR j S))=(List.range S.length).map (· +j)
 |[],j=>rfl
 |f::r,j=>by
  have h:zav (twR j (f::r))=(zfo j f).cells++zav (twR (j+1) r):=rfl
  rw[h,zk5,zsr r]
  rw[xax,List.range_succ_eq_map,xa4,xc3]
  simp only[zfo,RO.cells,AV.refs.refsL,AV.refs,xa7,xas,xbo,xaw]
  congr 1
  refine xbk fun x _=>?_
  simp only[Function.comp];omega
theorem z5q:∀n,AV.refs.refsL (zaq n zeu)=[]
 |0=>rfl
 |n+1=>by rw[zaq,zk5,z5q n];rfl
theorem zmz{cells:List AV}{o:AObj}(h:za3 cells o):o.refs=AV.refs.refsL cells:=by
 rcases h with rfl|⟨cs,rfl,rfl⟩
 ·rfl
 ·have:∀l:List IV,AV.refs.refsL (l.map .imm)=[]:=by
   intro l;induction l with
   |nil=>rfl
   |cons x l ih=>simp only[xa4,AV.refs.refsL,AV.refs,ih,xas]
  rw[this];rfl
theorem ygj{cells:List AV}{o:AObj}(h:za3 cells o)(r:Mem):zhh (o::r) 0=some cells:=by
 rcases h with rfl|⟨cs,rfl,rfl⟩<;>rfl
theorem z58(e:Env){o a:AObj}{los:List AObj}{cells one:List AV}(i c:Nat)(ho:za3 cells o)(h1:zdx one=none)(h2:one.length=5)(h3:i+1<=c)(h4:(i+1)*5<=cells.length):
  zaz ⟨0,e,o::(los++[a,.rich one])⟩ 5 64 (.osl 0 0 5 i (some c)) (.osl (los.length+2) 0 5 1 (some 1))=some (.osl 0 0 5 (i+1) (some c),⟨0,e,.rich (setAll cells (i*5) one)::(los++[a,.rich one])⟩):=by
 have hg:(o::(los++[a,.rich one]))[los.length+2]?=some (.rich one):=by
  rw[xba,xag (by omega)]
  simp
 have hcut:cut one 0 (1*5)=some one:=zdv _ (by omega)
 have hel:elems (o::(los++[a,.rich one])) 5 (.osl (los.length+2) 0 5 1 (some 1))=none:=by
  simp only[elems,hg,hcut,h1,xci]
 have hel2:zbr (o::(los++[a,.rich one])) 5 (.osl (los.length+2) 0 5 1 (some 1))=some (1,one):=by
  simp only[zbr,hg,hcut,xao]
 simp only[zaz,za0,hel,zb8,hel2,ygj ho]
 simp[h3,h4]
theorem z59{o:AObj}{los:List AObj}{cells:List AV}(i c:Nat)(sp:List IV)(ho:za3 cells o)(h2:sp.length=5)(h3:i+1<=c)(h4:(i+1)*5<=cells.length):
  ∃o2,za3 (setAll cells (i*5) (sp.map .imm)) o2/\∀e,zaz ⟨0,e,o::(los++[.flat sp false])⟩ 5 64 (.osl 0 0 5 i (some c)) (.osl (los.length+1) 0 5 1 (some 1))=some (.osl 0 0 5 (i+1) (some c),⟨0,e,o2::(los++[.flat sp false])⟩):=by
 have hg:(o::(los++[.flat sp false]))[los.length+1]?=some (.flat sp false):=by
  rw[xba,xag (by omega)]
  simp
 have hcut:cut sp 0 (1*5)=some sp:=zdv _ (by omega)
 have hel:elems (o::(los++[.flat sp false])) 5 (.osl (los.length+1) 0 5 1 (some 1))=some (1,sp):=by
  simp only[elems,hg,hcut,xao]
 have hel2:zbr (o::(los++[.flat sp false])) 5 (.osl (los.length+1) 0 5 1 (some 1))=some (1,sp.map .imm):=by
  simp only[zbr,hg,hcut,xao]
 rcases ho with rfl|⟨cs,rfl,rfl⟩
 ·refine⟨_,.inl rfl,fun e=>?_⟩
  simp only[zaz,za0,hel,xbw,if_true,zb8,hel2,zhh]
  simp[h3,h4]
 ·refine⟨.flat (setAll cs (i*5) sp) false,.inr ⟨_,rfl,zsd sp cs _⟩,fun e=>?_⟩
  rw[xam]at h4
  simp only[zaz,za0,hel,xbw,if_true]
  simp[h3,h4]
theorem ygk{o:AObj}{S:List Obj}{n:Nat}(h:za3 (zav (twR 1 S)++zaq n zeu) o):zjc o (S.map zcw):=by
 refine⟨?_,fun l hl=>?_⟩
 ·rw[zmz h,zk5,zsr,z5q,xas,xam]
 ·obtain⟨f,_,rfl⟩:=xbd.1 hl
  exact⟨_,_,rfl⟩
section
variable {code:Nat->Option zab} {ext:zac}
theorem yh2(h:code 379=some zhn)(h':code 372=some zlh)(o:Obj)(hb:o.l.xs.length<=1000000000):
  callW code ext 372 [.agg [.imm (.val (.int .u8 o.k)),.imm (.val (.string o.s)),.imm o.l.iv,zaa o.room,zaa o.fn]] []=
   some (.agg (zfo 0 o).cells,[zcw o]):=by
 rw[zad code ext h']
 have ht:=zx4 (ext:=ext) h o.l.ok hb
 simp -implicitDefEqProofs [zlh,ht,zfo,RO.cells,zcw]
theorem yec (h:code 379=some zhn) (h':code 372=some zlh) {iv:IV} {xs:List Obj} (hr:zak tObj iv xs) (hl:xs.length<=1048576) (hs:∀o∈xs,o.l.xs.length<=1000000):
  ∃e s',den code ext (.loop [0,3,4] ztn) ⟨0,[(0,.imm iv),(3,.osl 0 0 5 0 (some (xs.length+1))),(4,zaa 0)],[.flat (zaq (xs.length+1) [.val (.int .u8 0),.val (.string .empty),.val (.slice none 0 0),.val (.int .i64 0),.val (.int .i64 0)]) false]⟩=some (e,s')/\e≠ .normal/\
   (e=.exit 0/\∃o,za3 (zav (twR 1 xs)++zaq 1 zeu) o/\s'=⟨0,[(0,.imm iv),(3,.osl 0 0 5 xs.length (some (xs.length+1))),(4,zaa xs.length),(12,avb false)],o::xs.map zcw⟩):=by
 have hlen:=zau hr
 have hcm:∀n,(zaq n zeu)=(zaq n [IV.val (.int .u8 0),.val (.string .empty),.val (.slice none 0 0),.val (.int .i64 0),.val (.int .i64 0)]).map .imm:=by
  intro n;induction n with
  |zero=>rfl
  |succ n ih=>rw[zaq,zaq,xcj,<-ih];rfl
 refine zbu (fun n s=>∃i o,i+n=xs.length/\za3 (zav (twR 1 (xs.take i))++zaq (n+1) zeu) o/\s.tidy [0,3,4]=⟨0,[(0,.imm iv),(3,.osl 0 0 5 i (some (xs.length+1))),(4,zaa (i:Nat))],o::(xs.take i).map zcw⟩) _ ?_ xs.length _
  ⟨0,.flat (zaq (xs.length+1) [.val (.int .u8 0),.val (.string .empty),.val (.slice none 0 0),.val (.int .i64 0),.val (.int .i64 0)]) false,by simp,.inr ⟨_,rfl,by rw[hcm];rfl⟩,by simp -implicitDefEqProofs []⟩
 rintro n s ⟨i,o,hi,ho,hst⟩
 rw[hst]
 by_cases hlt:i<xs.length
 ·have hsm:=hs _ (xa8 hlt)
  obtain⟨row,off,cap,rfl,hc,hcut,hget⟩:=zbv hr (xaa hlt)
  have e1:IntKind.wrap .i64 ((i:Int)+1)=(i:Int)+1:=zaw (by omega) (by omega)
  obtain⟨m,rfl⟩:∃m,n=m+1:=⟨n-1,by omega⟩
  have hlt':(i:Int)<xs.length:=by omega
  have htk:xs.take (i+1)=xs.take i++[xs[i]]:=by rw[xbg,xaa hlt];rfl
  have hti:(xs.take i).length=i:=by rw[xb7];omega
  generalize xs[i]=f at hget htk hsm
  generalize hF:xs.take i=F at ho htk hti hst ⊢
  simp only[tObj]at hget
  have ht:=yh2 (ext:=ext) h h' f (by omega)
  have hlos:(F.map zcw).length=i:=by simp[hti]
  have hap:=fun e=>z58 e (a:=zcw f) (los:=F.map zcw) (one:=(zfo (i+1) f).cells) i (xs.length+1) ho rfl rfl (by omega) (by simp only[xak,zi3,zpw,zl5,hti];simp[zeu];omega)
  have hset:setAll (zav (twR 1 F)++zaq (m+1+1) zeu) (i*5) (zfo (i+1) f).cells=zav (twR 1 (F++[f]))++zaq (m+1) zeu:=by
   rw[zaq,zsf _ zeu _ (zfo (i+1) f).cells (by simp[zeu,RO.cells]) (by rw[zi3,zpw,hti]),z4n,hti,zxi,Nat.add_comm 1 i,xbj]
  rw[hset,hlos]at hap
  have hrows:zjc (.rich (zav (twR 1 (F++[f]))++zaq (m+1) zeu)) ((F++[f]).map zcw):=ygk (n:=m+1) (.inl rfl)
  refine⟨.normal,⟨0,[(0,.imm (.slice row off xs.length cap)),(3,.osl 0 0 5 (i+1) (some (xs.length+1))),(4,zaa ((i:Int)+1))],.rich (zav (twR 1 (F++[f]))++zaq (m+1) zeu)::(((F++[f]).map zcw)++[.rich (zfo (i+1) f).cells])⟩,?_,.inl ⟨rfl,m,by omega,i+1,.rich (zav (twR 1 (F++[f]))++zaq (m+1) zeu),by omega,?_,?_⟩⟩
  rotate_left
  ·rw[htk];exact .inl rfl
  ·rw[yhw hrows (by simp;omega) _ _ rfl (by simp) (fun f hf=>by simp[hf]),htk]
   simp
  simp only[zfo,RO.cells,zcw]at hap ht ⊢
  simp -implicitDefEqProofs [ztn,hlt',hget,e1,ht,hap,hlos,zbp,zcw]
 ·have:i=xs.length:=by omega
  subst this
  have:n=0:=by omega
  subst this
  rw[xbp]at ho ⊢
  refine⟨.exit 0,⟨0,[(0,.imm iv),(3,.osl 0 0 5 xs.length (some (xs.length+1))),(4,zaa xs.length),(12,avb false)],o::xs.map zcw⟩,?_,.inr ⟨by simp,rfl,o,ho,rfl⟩⟩
  simp -implicitDefEqProofs [ztn,hlen]
theorem yba(l:List AObj):l.map (AObj.ren fun i=>some i)=l:=by
 induction l with
 |nil=>rfl
 |cons o l ih=>rw[xa4,ih];congr 1;exact zmq o
theorem yhz (h:code 379=some zhn) (h':code 372=some zlh) (h2:code 373=some zqh) {iv:IV} {xs:List Obj} (hr:zak tObj iv xs) (hl:xs.length<=1048576) (hs:∀o∈xs,o.l.xs.length<=1000000):
  ∃o,za3 (zav (twR 1 xs)++zgy) o/\callW code ext 373 [.imm iv] []=some (.osl 0 0 5 xs.length (some (xs.length+1)),o::xs.map zcw):=by
 have hlen:=zau hr
 obtain⟨e,s',h1,_,rfl,o,ho,rfl⟩:=yec (ext:=ext) h h' hr hl hs
 obtain⟨o2,ho2,hap⟩:=z59 (los:=xs.map zcw) xs.length (xs.length+1) [.val (.int .u8 0),.val (.string ⟨#[115,112,97,114,101]⟩),.val (.slice none 0 0),.val (.int .i64 0),.val (.int .i64 0)] ho rfl (by omega) (by simp only[xak,zi3,zpw,zl5];simp[zeu];omega)
 have hset:setAll (zav (twR 1 xs)++zaq 1 zeu) (xs.length*5) zgy=zav (twR 1 xs)++zgy:=by
  rw[zaq,zaq,zsf _ zeu _ zgy (by simp[zeu,zgy]) (by rw[zi3,zpw]),xas]
 have hsp:List.map AV.imm [IV.val (.int .u8 0),.val (.string ⟨#[115,112,97,114,101]⟩),.val (.slice none 0 0),.val (.int .i64 0),.val (.int .i64 0)]=zgy:=rfl
 rw[hsp,hset]at ho2
 rw[xam]at hap
 have hrows:zjc o2 (xs.map zcw):=by
  refine⟨?_,fun l hl=>?_⟩
  ·rw[zmz ho2,zk5,zsr,xam];simp[zgy,AV.refs.refsL,AV.refs]
  ·obtain⟨f,_,rfl⟩:=xbd.1 hl
   exact⟨_,_,rfl⟩
 obtain⟨hord,hpick⟩:=z10 (junk:=[.flat [.val (.int .u8 0),.val (.string ⟨#[115,112,97,114,101]⟩),.val (.slice none 0 0),.val (.int .i64 0),.val (.int .i64 0)] false]) hrows (by simp;omega)
 rw[xam]at hord hpick
 have hplace:place (List.range (xs.length+1)) 0=some 0:=zrx (by omega)
 have e1:IntKind.wrap .i64 ((xs.length:Int)+1)=(xs.length:Int)+1:=zaw (by omega) (by omega)
 have e2:(0:Int)<=(xs.length:Int)+1:=by omega
 have e3:(64:Int)*((xs.length:Int)+1)<=281474976710656:=by omega
 have e4:(xs.length:Int)+1<=9223372036854775807:=by omega
 have e6:(xs.length:Int)<=(xs.length:Int)+1:=by omega
 have e5:((xs.length:Int)+1).toNat=xs.length+1:=by omega
 refine⟨o2,ho2,?_⟩
 rw[zad code ext h2]
 simp -implicitDefEqProofs [zqh,hlen,e1,e2,e3,e4,e5,e6,h1,hap,zf6,zbp,hord,hpick,hplace,-order,-reach,-Mem.pickAll,-List.range_succ]
theorem yh0 (h:code 379=some zhn) (h':code 372=some zlh) (h2:code 373=some zqh) (h3:code 377=some zli) {iv:IV} {xs:List Obj} (hr:zak tObj iv xs) (hl:xs.length<=1048576) (hs:∀o∈xs,o.l.xs.length<=1000000):
  ∃o,za3 (zav (twR 1 xs)++zgy) o/\callW code ext 377 [.imm iv] []=some (.osl 0 0 5 xs.length (some (xs.length+1)),o::xs.map zcw):=by
 obtain⟨o,ho,h1⟩:=yhz (ext:=ext) h h' h2 hr hl hs
 have hrows:zjc o (xs.map zcw):=by
  refine⟨?_,fun l hl=>?_⟩
  ·rw[zmz ho,zk5,zsr,xam];simp[zgy,AV.refs.refsL,AV.refs]
  ·obtain⟨f,_,rfl⟩:=xbd.1 hl
   exact⟨_,_,rfl⟩
 obtain⟨hord,hpick⟩:=z10 (junk:=[]) hrows (by simp;omega)
 rw[xam,xas]at hord hpick
 have hplace:place (List.range (xs.length+1)) 0=some 0:=zrx (by omega)
 have hmap:=yba (xs.map zcw)
 have ho2:AObj.ren (fun i=>some i) o=o:=zmq o
 refine⟨o,ho,?_⟩
 rw[zad code ext h3]
 simp -implicitDefEqProofs [zli,h1,hord,hpick,hplace,hmap,ho2,-order,-reach,-Mem.pickAll,-List.range_succ,-List.map_map,-AObj.ren]
end
theorem zwb{M:Mem}{x:AV}{c:List AV}{n:Nat}(h:zfd M x c n):lenOf x=some n:=by
 rcases h with⟨rfl,rfl,rfl⟩|⟨vid,o,rfl,_⟩<;>rfl
structure znw (M:Mem) (b f:Nat) (vx:AV) (E:List KE):Prop where
 B:∃B,M[b]?=some (.rich B)/\B[f]?=some vx
 h:zfd M vx (zcn E) E.length
 own:∀id∈za2 E,id≠b/\id ∉ vx.refs
 nd:(za2 E).Nodup
theorem z9w{M M':Mem}{b f:Nat}{vx:AV}{E:List KE}(h:znw M b f vx E)(hb:M'[b]?=M[b]?)(hv:∀id∈vx.refs,M'[id]?=M[id]?):znw M' b f vx E:=by
 obtain⟨B,h1,h2⟩:=h.B
 exact⟨⟨B,by rw[hb];exact h1,h2⟩,zgr h.h hv,h.own,h.nd⟩
theorem z3c(E:List KE)(e:KE):za2 (E++[e])=za2 E++e.x.refs:=by simp[za2]
section
variable {code:Nat->Option zab} {ext:zac}
theorem z0s{g sz f mk:Nat}(hg:code g=some (zct sz f mk)){mi:Int->List IV}{R:Int->Prop}(hmk:∀s n,R n->zbl (callW code ext) s mk [zaa n]=some (.agg ((mi n).map .imm),s))(hms:∀n,(mi n).length=sz)
  {M:Mem} {b:Nat} {vx:AV} {E:List KE} (hk:znw M b f vx E) (hbl:b<M.length) (hE:E.length<=1000000000) (hEn:∀e∈E,R e.n) (hx:∀e∈E,KX M sz e.x e.len e.cells/\e.len<=1000000000) (hvl:∀id∈vx.refs,id<M.length):
  ∃M',callW code ext g [.optr b 0] M=some (.tup [],M')/\M.length<=M'.length/\(∀id,id<M.length->id ∉ za2 E->M'[id]?=M[id]?)/\∀e∈E,KX M' sz e.x e.len (zaq e.len ((mi e.n).map .imm)++e.cells.drop (e.len*sz)):=by
 have hloop:∃e s',den code ext (.loop [1000000,0,2] (zoj sz f mk)) ⟨M.length,[(0,.optr b 0),(2,zaa 0)],M⟩=some (e,s')/\e≠ .normal/\
   (e=.exit 0/\∃M',s'=⟨M.length,[(0,.optr b 0),(2,zaa E.length),(11,avb false)],M'⟩/\M.length<=M'.length/\(∀id,id<M.length->id ∉ za2 E->M'[id]?=M[id]?)/\∀e∈E,KX M' sz e.x e.len (zaq e.len ((mi e.n).map .imm)++e.cells.drop (e.len*sz))):=by
  refine zbu (fun m s=>∃(i:Nat) (Mi:Mem),i+m=E.length/\s.tidy [1000000,0,2]=⟨M.length,[(1000000,.junk),(0,.optr b 0),(2,zaa (i:Nat))],Mi⟩/\M.length<=Mi.length/\(∀id,id<M.length->id ∉ za2 (E.take i)->Mi[id]?=M[id]?)/\
   ∀e∈E.take i,KX Mi sz e.x e.len (zaq e.len ((mi e.n).map .imm)++e.cells.drop (e.len*sz))) _ ?_ E.length _ ⟨0,M,by simp,by simp -implicitDefEqProofs [],xap _,fun _ _ _=>rfl,fun e he=>by simp at he⟩
  rintro m s ⟨i,Mi,hi,hst,hlen,hsame,hdone⟩
  rw[hst]
  have hsub:∀id∈za2 (E.take i),id∈za2 E:=fun id hid=>by
   obtain⟨e,he,hid⟩:=xa2.1 hid
   exact xa2.2 ⟨e,List.mem_of_mem_take he,hid⟩
  have hki:znw Mi b f vx E:=z9w hk (hsame b hbl fun hm=>(hk.own b (hsub b hm)).1 rfl) fun id hid=>hsame id (hvl id hid) fun hm=>(hk.own id (hsub id hm)).2 hid
  obtain⟨B,hB,hBf⟩:=hki.B
  have lb:loadAt Mi none (.optr b f)=some vx:=by simp only[loadAt,hB];exact hBf
  have hlx:=zwb hki.h
  by_cases hlt:i<E.length
  ·have hlt':(i:Int)<E.length:=by omega
   have e1:IntKind.wrap .i64 ((i:Int)+1)=(i:Int)+1:=zaw (by omega) (by omega)
   have hgi:=xaa hlt
   have hmke:=fun s=>hmk s _ (hEn _ (xa8 hlt))
   obtain⟨hxi,hle⟩:=hx _ (xa8 hlt)
   have htk:E.take (i+1)=E.take i++[E[i]]:=by rw[xbg,hgi];rfl
   have hcut:=zq6 E i _ hgi
   have hnd:∀id∈(E[i]).x.refs,id ∉ za2 (E.take i):=by
    have h1:=hk.nd
    rw[<-List.take_append_drop (i+1) E,htk]at h1
    unfold za2 at h1
    simp only[List.flatMap_append,xct,List.flatMap_nil,xas,xbj]at h1
    rw[xco]at h1
    intro id hid hm
    exact h1.2.2 id hm id (xc0 _ hid) rfl
   generalize E[i]=e at hmke hxi hle htk hcut hnd
   obtain⟨x,lg,n,len,cells⟩:=e
   dsimp only at hmke
   simp only[KE.c3]at hcut hxi hle hnd
   rcases hki.h with⟨_,_,h0⟩|⟨vid,vo,rfl,hvo,hvr,_,_⟩
   ·omega
   have lv:=zmy hvo hvr hcut
   have hx':KX Mi sz x len cells:=zdn hxi fun id hid=>hsame id (zee hxi id hid) (hnd id hid)
   have hst3:storeAt (Mi++[.rich [zae,zae,zaa 0]]) (.optr Mi.length 0) [x,lg,zaa n]=some (Mi++[.rich [x,lg,zaa n]]):=by
    simp[storeAt,setAll]
   have hh:(Mi++[.rich [x,lg,zaa n]])[Mi.length]?=some (.rich [x,lg,zaa n]):=ze2 _ _
   have lx:=zwi hx'
   have lh0:loadAt (Mi++[.rich [x,lg,zaa n]]) none (.optr Mi.length 0)=some x:=by simp only[loadAt,hh];rfl
   have hin:∃M2,den code ext (.loop [1000000,0,2,3,4] (zku sz f mk)) ⟨M.length,[(0,.optr b 0),(2,zaa (i:Nat)),(3,.optr Mi.length 0),(4,zaa 0)],Mi++[.rich [x,lg,zaa n]]⟩=some (.exit 2,⟨M.length,[(0,.optr b 0),(2,zaa (i:Nat)),(3,.optr Mi.length 0),(4,zaa len),(25,avb false)],M2⟩)/\
     Mi.length<M2.length/\(∀id,id<Mi.length->id ∉ x.refs->M2[id]?=Mi[id]?)/\KX M2 sz x len (zaq len ((mi n).map .imm)++cells.drop (len*sz)):=by
    rcases hx' with⟨rid,c,ob,rfl,hro,hrr,hcl,hlc,hc2⟩|⟨rfl,rfl,hx0⟩
    ·have hrl:rid<Mi.length:=(xab.1 hro).1
     have hfit:len*sz<=cells.length:=by rw[hcl];exact xb6 _ hlc
     have hro':(Mi++[.rich [.osl rid 0 sz len (some c),lg,zaa n]])[rid]?=some ob:=by rw[xac hrl];exact hro
     obtain⟨e,s',h1,_,rfl,ob',hr',rfl⟩:=z83 (K:=M.length) (b:=b) (j:=(i:Int)) (f:=f) hmke (hms n) hh (by omega) hro' hrr hfit hle
      (s:=⟨M.length,[(0,.optr b 0),(2,zaa (i:Nat)),(3,.optr Mi.length 0),(4,zaa 0)],Mi++[.rich [.osl rid 0 sz len (some c),lg,zaa n]]⟩) (by simp -implicitDefEqProofs [])
     refine⟨_,h1,by simp,fun id h3 h4=>?_,.inl ⟨rid,c,ob',rfl,?_,hr',?_,hlc,hc2⟩⟩
     ·rw[xa6 (fun e=>h4 (by simp[AV.refs,e])),xac h3]
     ·exact xcf (by simp;omega)
     ·rw[xak,zl5,xam,hms,List.length_drop]
      omega
    ·refine⟨Mi++[.rich [x,lg,zaa n]],?_,by simp,fun id h3 h4=>xac h3,.inr ⟨rfl,by simp[zaq],hx0⟩⟩
     rw[zfi]
     rcases hx0 with rfl|⟨row,off,rfl⟩
     ·simp -implicitDefEqProofs [zku,lh0,-loadAt]
     ·simp -implicitDefEqProofs [zku,lh0,-loadAt]
   obtain⟨M2,h1,h2,h3,h4⟩:=hin
   refine⟨.normal,⟨M.length,[(0,.optr b 0),(2,zaa ((i:Int)+1))],M2⟩,?_,.inl ⟨rfl,m-1,by omega,i+1,M2,by omega,by simp -implicitDefEqProofs [],by omega,fun id q1 q2=>?_,fun e he=>?_⟩⟩
   ·simp -implicitDefEqProofs [zoj,lb,-loadAt,hlt',lv,hst3,-storeAt,h1,e1]
   ·rw[htk,z3c,xaj,not_or]at q2
    rw[h3 id (by omega) q2.2]
    exact hsame id q1 q2.1
   ·rw[htk]at he
    rcases xaj.1 he with he|he
    ·have hne:∀id∈e.x.refs,id ∉ x.refs:=fun id hid hm=>hnd id hm (xa2.2 ⟨e,he,hid⟩)
     exact zdn (hdone e he) fun id hid=>h3 id (zee (hdone e he) id hid) (hne id hid)
    ·simp at he
     subst he
     exact h4
  ·have:i=E.length:=by omega
   subst this
   rw[xbp]at hsame hdone
   refine⟨.exit 0,⟨M.length,[(0,.optr b 0),(2,zaa E.length),(11,avb false)],Mi⟩,?_,.inr ⟨by simp,rfl,Mi,rfl,hlen,hsame,hdone⟩⟩
   simp -implicitDefEqProofs [zoj,lb,-loadAt,hlx]
 obtain⟨e,s',h1,_,rfl,M',rfl,h2,h3,h4⟩:=hloop
 refine⟨M',?_,h2,h3,h4⟩
 rw[zad code ext hg]
 simp -implicitDefEqProofs [zct,h1]
end
section
variable {sz by_:Nat} {M:Mem} {ms:List IV}
theorem zmr(hms:ms.length=sz):elems (M++[.flat ms false]) sz (.osl M.length 0 sz 1 (some 1))=some (1,ms):=by
 simp only[elems,ze2]
 rw[zdv _ (by omega)];rfl
theorem zwy(hms:ms.length=sz):zbr (M++[.flat ms false]) sz (.osl M.length 0 sz 1 (some 1))=some (1,ms.map .imm):=by
 simp only[zbr,ze2]
 rw[zdv _ (by omega)];rfl
theorem z6c(hms:ms.length=sz){rid l c:Nat}{ob:AObj}{cells:List AV}(ho:M[rid]?=some ob)(hr:za3 cells ob)(hl:l<c)(hc:(l+1)*sz<=cells.length):
  ∃o',za3 (setAll cells (l*sz) (ms.map .imm)) o'/\∀(K:Nat) (e:Env),zdj ⟨K,e,M++[.flat ms false]⟩ sz by_ (.osl rid 0 sz l (some c)) (.osl M.length 0 sz 1 (some 1))=some (.osl rid 0 sz (l+1) (some c),⟨K,e,M.set rid o'++[.flat ms false]⟩):=by
 have hrl:rid<M.length:=(xab.1 ho).1
 have hg:(M++[.flat ms false])[rid]?=some ob:=by rw[xac hrl];exact ho
 have hs:∀o,(M++[AObj.flat ms false]).set rid o=M.set rid o++[.flat ms false]:=fun o=>List.set_append_left _ _ hrl
 have h1:l+1<=c:=hl
 rcases hr with rfl|⟨cs,rfl,rfl⟩
 ·refine⟨.rich (setAll cells (l*sz) (ms.map .imm)),.inl rfl,fun K e=>?_⟩
  simp only[zdj,AV.isOpen,xan,if_false,zaz,za0,zmr hms,hg,if_true,zb8,zwy hms,zhh]
  simp[h1,hc,hs]
 ·rw[xam]at hc
  refine⟨.flat (setAll cs (l*sz) ms) false,.inr ⟨_,rfl,zsd ms cs _⟩,fun K e=>?_⟩
  simp only[zdj,AV.isOpen,xan,if_false,zaz,za0,zmr hms,hg,if_true]
  simp[h1,hc,hs]
theorem zy4(hms:ms.length=sz){rid c:Nat}{ob:AObj}{cells:List AV}(ho:M[rid]?=some ob)(hr:za3 cells ob)(hc:cells.length=c*sz)(hb:(c+1)*by_<=140737488355328):
  ∃o',za3 (cells++ms.map .imm) o'/\∀(K:Nat) (e:Env),zdj ⟨K,e,M++[.flat ms false]⟩ sz by_ (.osl rid 0 sz c (some c)) (.osl M.length 0 sz 1 (some 1))=some (.osl (M.length+1) 0 sz (c+1) none,⟨K,e,M++[.flat ms false,o']⟩):=by
 have hrl:rid<M.length:=(xab.1 ho).1
 have hg:(M++[.flat ms false])[rid]?=some ob:=by rw[xac hrl];exact ho
 have h1:¬c+1<=c:=by omega
 rcases hr with rfl|⟨cs,rfl,rfl⟩
 ·refine⟨.rich (cells++ms.map .imm),.inl rfl,fun K e=>?_⟩
  have h2:zbr (M++[.flat ms false]) sz (.osl rid 0 sz c (some c))=some (c,cells):=by
   simp only[zbr,hg]
   rw[zdv _ hc];rfl
  simp only[zdj,AV.isOpen,xan,if_false,zaz,za0,zmr hms,hg,if_true,zb8,zwy hms,h2]
  simp[h1,hb]
 ·rw[xam]at hc
  refine⟨.flat (cs++ms) false,.inr ⟨_,rfl,by simp⟩,fun K e=>?_⟩
  have h2:cut cs 0 (c*sz)=some cs:=zdv _ hc
  simp only[zdj,AV.isOpen,xan,if_false,zaz,za0,zmr hms,hg,if_true,h2]
  simp[h1,hb]
theorem z6d(hms:ms.length=sz){x:AV}(hx:x=zae\/∃row off,x=.imm (.slice row off 0 (some 0)))(hb:by_<=140737488355328)(K:Nat)(e:Env):
  zdj ⟨K,e,M++[.flat ms false]⟩ sz by_ x (.osl M.length 0 sz 1 (some 1))=some (.osl (M.length+1) 0 sz 1 none,⟨K,e,M++[.flat ms false,.flat ms false]⟩):=by
 rcases hx with rfl|⟨row,off,rfl⟩
 ·simp only[zdj,AV.isOpen,xan,if_false,zaz,za0,zmr hms]
  simp[hb]
 ·have h2:cut row off 0=some []:=by simp[cut]
  simp only[zdj,AV.isOpen,xan,if_false,zaz,za0,zmr hms,Nat.zero_mul,h2]
  simp[hb]
theorem z6e(hms:ms.length=sz){nid l:Nat}{ob:AObj}{cells:List AV}(ho:M[nid]?=some ob)(hr:za3 cells ob)(hc:cells.length=l*sz)(hb:(l+1)*by_<=140737488355328)(K:Nat)(e:Env):
  zdj ⟨K,e,M++[.flat ms false]⟩ sz by_ (.osl nid 0 sz l none) (.osl M.length 0 sz 1 (some 1))=some (.osl (M.length+1) 0 sz (l+1) none,⟨K,e,M.set nid .dead++[.flat ms false,.rich (cells++ms.map .imm)]⟩):=by
 have hrl:nid<M.length:=(xab.1 ho).1
 have hg:(M++[.flat ms false])[nid]?=some ob:=by rw[xac hrl];exact ho
 have hs:∀o,(M++[AObj.flat ms false]).set nid o=M.set nid o++[.flat ms false]:=fun o=>List.set_append_left _ _ hrl
 have h2:zbr (M++[.flat ms false]) sz (.osl nid 0 sz l none)=some (l,cells):=zxk hg hr hc
 simp only[zdj,AV.isOpen,if_true,zb8,zwy hms,h2]
 simp[hb,hs]
def GL(B:Nat)(M:Mem)(sz:Nat)(mi:List AV)(x:AV)(len:Nat)(lg:AV)(j:Nat):Prop:=
 (j=0/\lg=x)\/(j=1/\∃rid ob,x=.osl rid 0 sz len (some (len+1))/\lg=.osl rid 0 sz (len+1) (some (len+1))/\M[rid]?=some ob/\za3 (zaq (len+1) mi) ob)\/
 (0<j/\∃nid ob,lg=.osl nid 0 sz (len+j) none/\B<=nid/\M[nid]?=some ob/\za3 (zaq (len+j) mi) ob)
theorem z9p(hms:ms.length=sz)(hb0:by_<=1000){B len j:Nat}{x lg:AV}{rest:List AV}(hB:B<=M.length)(hlen:len<=1000000000)(hj:j<=100)(hk:KX M sz x len (zaq len (ms.map .imm)++rest))(hx:∀id∈x.refs,id<B)(hg:GL B M sz (ms.map .imm) x len lg j):
  ∃lg' M' rest',(∀(K:Nat) (e:Env),zdj ⟨K,e,M++[.flat ms false]⟩ sz by_ lg (.osl M.length 0 sz 1 (some 1))=some (lg',⟨K,e,M'⟩))/\M.length<M'.length/\(∀id,id<B->id ∉ x.refs->M'[id]?=M[id]?)/\KX M' sz x len (zaq len (ms.map .imm)++rest')/\GL B M' sz (ms.map .imm) x len lg' (j+1):=by
 have hmi:(ms.map AV.imm).length=sz:=by rw[xam,hms]
 have hcl:∀n,(zaq n (ms.map AV.imm)).length=n*sz:=fun n=>by rw[zl5,hmi]
 have hbb:∀n,n<=1000000200->(n+1)*by_<=140737488355328:=fun n hn=>by
  have:(n+1)*by_<=(n+1)*1000:=Nat.mul_le_mul_left _ hb0
  omega
 have hfresh:∀(A o':AObj) (id:Nat),id<M.length->(M++[A,o'])[id]?=M[id]?:=fun A o' id h=>xac h
 have hnew:∀(N:Mem) (A o':AObj),N.length=M.length->(N++[A,o'])[M.length+1]?=some o':=fun N A o' h=>by
  rw[xag (by omega),h];simp
 rcases hg with⟨rfl,rfl⟩|⟨rfl,rid,ob,rfl,rfl,ho,hr⟩|⟨hj0,nid,ob,rfl,hnB,ho,hr⟩
 ·rcases hk with⟨rid,c,ob,rfl,ho,hr,hc,hlc,hc2⟩|⟨rfl,hcells,hx0⟩
  ·have hrB:=hx rid (by simp[AV.refs])
   have hrl:rid<M.length:=(xab.1 ho).1
   rcases xa1 len c with hlt|hge
   ·have:c=len+1:=by omega
    subst this
    have hrs:rest.length=sz:=by
     rw[xak,hcl]at hc
     have:(len+1)*sz=len*sz+sz:=by rw[Nat.add_mul,xc4]
     omega
    obtain⟨o',hr',hap⟩:=z6c (by_:=by_) hms ho hr hlt (by rw[hc];exact xap _)
    have hset:setAll (zaq len (ms.map AV.imm)++rest) (len*sz) (ms.map .imm)=zaq (len+1) (ms.map .imm):=by
     have:=zsf (zaq len (ms.map AV.imm)) rest [] (ms.map .imm) (by rw[hrs,hmi]) (hcl len)
     rw[xas,xas]at this
     rw[this,zjg]
    rw[hset]at hr'
    have hg':(M.set rid o'++[AObj.flat ms false])[rid]?=some o':=by
     rw[xac (by rw[xb8];omega)]
     exact xcf (by omega)
    refine⟨_,_,ms.map .imm,hap,by simp,fun id h1 h2=>?_,.inl ⟨rid,len+1,o',rfl,hg',by rw[zjg];exact hr',by rw[zjg,hcl],by omega,by omega⟩,.inr (.inl ⟨rfl,rid,o',rfl,rfl,hg',hr'⟩)⟩
    rw[xac (by rw[xb8];omega),xa6 (fun e=>h2 (by simp[AV.refs,e]))]
   ·have:c=len:=by omega
    subst this
    have hrest:rest=[]:=by
     rw[xak,hcl]at hc
     exact xat (by omega)
    subst hrest
    rw[xas]at hr hc
    obtain⟨o',hr',hap⟩:=zy4 (by_:=by_) hms ho hr hc (hbb _ (by omega))
    rw[zjg]at hr'
    refine⟨_,_,[],hap,by simp,fun id h1 h2=>hfresh _ _ id (by omega),.inl ⟨rid,c,ob,rfl,by rw[hfresh _ _ rid hrl];exact ho,by rw[xas];exact hr,by rw[xas,hcl],by omega,by omega⟩,.inr (.inr ⟨by omega,M.length+1,o',rfl,by omega,hnew M _ _ rfl,hr'⟩)⟩
  ·have hap:=z6d (by_:=by_) (M:=M) hms hx0 (by omega)
   refine⟨_,_,rest,hap,by simp,fun id h1 h2=>hfresh _ _ id (by omega),.inr ⟨rfl,hcells,hx0⟩,.inr (.inr ⟨by omega,M.length+1,.flat ms false,rfl,by omega,hnew M _ _ rfl,.inr ⟨ms,rfl,by simp[zaq]⟩⟩)⟩
 ·have hrl:rid<M.length:=(xab.1 ho).1
  obtain⟨o',hr',hap⟩:=zy4 (by_:=by_) hms ho hr (hcl _) (hbb _ (by omega))
  rw[zjg]at hr'
  refine⟨_,_,rest,hap,by simp,fun id h1 h2=>hfresh _ _ id (by omega),zdn hk fun id hid=>hfresh _ _ id (zee hk id hid),.inr (.inr ⟨by omega,M.length+1,o',rfl,by omega,hnew M _ _ rfl,hr'⟩)⟩
 ·have hnl:nid<M.length:=(xab.1 ho).1
  have hap:=z6e (by_:=by_) hms ho hr (hcl _) (hbb _ (by omega))
  have hsame:∀id,id<B->(M.set nid .dead++[.flat ms false,.rich (zaq (len+j) (ms.map AV.imm)++ms.map .imm)])[id]?=M[id]?:=fun id h1=>by
   rw[xac (by simp;omega),xa6 (by omega)]
  refine⟨_,_,rest,hap,by simp,fun id h1 h2=>hsame id h1,zdn hk fun id hid=>hsame id (hx id hid),.inr (.inr ⟨by omega,M.length+1,_,rfl,by omega,hnew _ _ _ (by simp),?_⟩)⟩
  rw[zjg]
  exact .inl rfl
end
theorem zpm{M:Mem}{id off:Nat}{o:AObj}{cells vs:List AV}(hM:M[id]?=some o)(h:za3 cells o)(hl:off+vs.length<=cells.length):
  ∃o',za3 (setAll cells off vs) o'/\storeAt M (.optr id off) vs=some (M.set id o'):=by
 cases him:zdx vs with
 |some xs=>
  have:=ziy _ _ him
  subst this
  rw[xam]at hl
  exact z3n hM h hl
 |none=>
  rcases h with rfl|⟨cs,rfl,rfl⟩
  ·exact⟨_,.inl rfl,by simp only[storeAt,hM];rw[if_pos hl]⟩
  ·rw[xam]at hl
   exact⟨_,.inl rfl,by simp[storeAt,hM,him,hl]⟩
theorem z0d:∀(E:List KE) (i:Nat) (e:KE) (lg:AV),E[i]?=some e->(zcn E).set (i*3+1) lg=zcn (E.set i { e with lg:=lg })
 |[],i,e,lg,h=>by simp at h
 |p::r,0,e,lg,h=>by
  simp at h;subst h
  rfl
 |p::r,i+1,e,lg,h=>by
  have h1:=z0d r i e lg (by simpa using h)
  have hr:∀(p:KE) r,zcn (p::r)=p.c3++zcn r:=fun _ _=>rfl
  rw[hr,xbb _ _ (by simp[KE.c3];omega),xcg,hr,<-h1]
  congr 2
  simp[KE.c3];omega
def zu5(B:Nat)(M:Mem)(sz:Nat)(mi:Int->List IV)(e e':KE):Prop:=
 e'.x=e.x/\e'.n=e.n/\e'.len=e.len/\(∃rest,KX M sz e.x e.len (zaq e.len ((mi e.n).map .imm)++rest))/\∃nid ob,e'.lg=.osl nid 0 sz (e.len+40) none/\B<=nid/\M[nid]?=some ob/\za3 (zaq (e.len+40) ((mi e.n).map .imm)) ob
section
variable {code:Nat->Option zab} {ext:zac}
theorem z9o{sz by_ f mk:Nat}{zs:List Value}{n:Int}{ms:List IV}(hb0:by_<=1000)(hz:zs.length=sz)(hmk:∀s,zbl (callW code ext) s mk [zaa n]=some (.agg (ms.map .imm),s))(hms:ms.length=sz){K b h len:Nat}{i:Int}{M:Mem}{x lg:AV}{rest:List AV}
  (hh:M[h]?=some (.rich [x,lg,zaa n])) (hhx:h ∉ x.refs) (hk:KX M sz x len (zaq len (ms.map .imm)++rest)) (hlen:len<=1000000000) {s:St}
  (hst:s.tidy [1000000,0,2,3,4,5]=⟨K,[(1000000,.junk),(0,.optr b 0),(2,zaa i),(3,.optr h 0),(4,x),(5,zaa 0)],M⟩):
  ∃e s',den code ext (.loop [1000000,0,2,3,4,5] (zre sz by_ zs f mk)) s=some (e,s')/\e≠ .normal/\
   (e=.exit 2/\∃M' lg' rest',s'=⟨K,[(0,.optr b 0),(2,zaa i),(3,.optr h 0),(4,lg'),(5,zaa 40),(25,avb false)],M'⟩/\M.length<=M'.length/\(∀id,id<M.length->id ∉ x.refs->M'[id]?=M[id]?)/\KX M' sz x len (zaq len (ms.map .imm)++rest')/\GL M.length M' sz (ms.map .imm) x len lg' 40):=by
 refine zbu (fun m s=>∃(j:Nat) (Mj:Mem) (lgj:AV) (restj:List AV),j+m=40/\s.tidy [1000000,0,2,3,4,5]=⟨K,[(1000000,.junk),(0,.optr b 0),(2,zaa i),(3,.optr h 0),(4,lgj),(5,zaa (j:Nat))],Mj⟩/\M.length<=Mj.length/\(∀id,id<M.length->id ∉ x.refs->Mj[id]?=M[id]?)/\
  KX Mj sz x len (zaq len (ms.map .imm)++restj)/\GL M.length Mj sz (ms.map .imm) x len lgj j) _ ?_ 40 _ ⟨0,M,x,rest,by simp,by simpa using hst,xap _,fun _ _ _=>rfl,hk,.inl ⟨rfl,rfl⟩⟩
 clear hst
 rintro m s ⟨j,Mj,lgj,restj,hj,hst,hl,hsame,hkj,hgj⟩
 rw[hst]
 have hhl:h<M.length:=(xab.1 hh).1
 have hMh:Mj[h]?=some (.rich [x,lg,zaa n]):=by rw[hsame h hhl hhx];exact hh
 have l2:loadAt Mj none (.optr h 2)=some (zaa n):=by simp only[loadAt,hMh];rfl
 by_cases hlt:j<40
 ·have e1:IntKind.wrap .i64 ((j:Int)+1)=(j:Int)+1:=zaw (by omega) (by omega)
  have hlt':(j:Int)<40:=by omega
  obtain⟨lg',M',rest',hap,q1,q2,q3,q4⟩:=z9p hms hb0 hl hlen (by omega) hkj (fun id hid=>zee hk id hid) hgj
  have hc1:zaq 1 zs=zs:=by simp[zaq]
  have hfa:zco (imZ zs) [(0,sz,.agg (ms.map .imm))]=some (ms.map .imm):=by
   simp only[zco,AV.cells,xam,hms,imZ,hz,xaw,xap,and_self,if_true]
   rw[z38 _ _ (by simp[hz,hms])]
  refine⟨.normal,⟨K,[(0,.optr b 0),(2,zaa i),(3,.optr h 0),(4,lg'),(5,zaa ((j:Int)+1))],M'⟩,?_,.inl ⟨rfl,m-1,by omega,j+1,M',lg',rest',by omega,by simp -implicitDefEqProofs [],by omega,fun id h1 h2=>?_,q3,q4⟩⟩
  ·simp -implicitDefEqProofs [zre,l2,-loadAt,hlt',hmk,-zbl,hc1,hfa,-zco,-imZ,hap,e1]
  ·rw[q2 id h1 h2];exact hsame id h1 h2
 ·have:j=40:=by omega
  subst this
  refine⟨.exit 2,⟨K,[(0,.optr b 0),(2,zaa i),(3,.optr h 0),(4,lgj),(5,zaa 40),(25,avb false)],Mj⟩,?_,.inr ⟨by simp,rfl,Mj,lgj,restj,rfl,hl,hsame,hkj,hgj⟩⟩
  simp -implicitDefEqProofs [zre]
theorem z1b{g sz by_ f mk:Nat}{zs:List Value}(hg:code g=some (zcu sz by_ zs f mk))(hb0:by_<=1000)(hz:zs.length=sz){mi:Int->List IV}{R:Int->Prop}(hmk:∀s n,R n->zbl (callW code ext) s mk [zaa n]=some (.agg ((mi n).map .imm),s))(hms:∀n,(mi n).length=sz)
  {M:Mem} {b:Nat} {vx:AV} {E:List KE} (hk:znw M b f vx E) (hbl:b<M.length) (hE:E.length<=1000000000) (hEn:∀e∈E,R e.n) (hx:∀e∈E,(∃rest,KX M sz e.x e.len (zaq e.len ((mi e.n).map .imm)++rest))/\e.len<=1000000000) (hvl:∀id∈vx.refs,id<M.length/\id≠b):
  ∃M' E',callW code ext g [.optr b 0] M=some (.tup [],M')/\M.length<=M'.length/\(∀id,id<M.length->id ∉ za2 E->id ∉ vx.refs->M'[id]?=M[id]?)/\zfd M' vx (zcn E') E.length/\E'.length=E.length/\∀(j:Nat) e,E[j]?=some e->∃e',E'[j]?=some e'/\zu5 M.length M' sz mi e e':=by
 have hloop:∃e s',den code ext (.loop [1000000,0,2] (zom sz by_ zs f mk)) ⟨M.length,[(0,.optr b 0),(2,zaa 0)],M⟩=some (e,s')/\e≠ .normal/\
   (e=.exit 0/\∃M' E',s'=⟨M.length,[(0,.optr b 0),(2,zaa E.length),(12,avb false)],M'⟩/\M.length<=M'.length/\(∀id,id<M.length->id ∉ za2 E->id ∉ vx.refs->M'[id]?=M[id]?)/\zfd M' vx (zcn E') E.length/\E'.length=E.length/\∀(j:Nat) e,E[j]?=some e->∃e',E'[j]?=some e'/\zu5 M.length M' sz mi e e'):=by
  refine zbu (fun m s=>∃(i:Nat) (Mi:Mem) (Ei:List KE),i+m=E.length/\s.tidy [1000000,0,2]=⟨M.length,[(1000000,.junk),(0,.optr b 0),(2,zaa (i:Nat))],Mi⟩/\M.length<=Mi.length/\(∀id,id<M.length->id ∉ za2 (E.take i)->id ∉ vx.refs->Mi[id]?=M[id]?)/\
   zfd Mi vx (zcn Ei) E.length/\Ei.length=E.length/\(∀(j:Nat) e,j<i->E[j]?=some e->∃e',Ei[j]?=some e'/\zu5 M.length Mi sz mi e e')/\∀j,i<=j->Ei[j]?=E[j]?) _ ?_ E.length _ ⟨0,M,E,by simp,by simp -implicitDefEqProofs [],xap _,fun _ _ _ _=>rfl,hk.h,rfl,fun j e h=>by omega,fun _ _=>rfl⟩
  rintro m s ⟨i,Mi,Ei,hi,hst,hlen,hsame,hheld,hEl,hdone,hrest⟩
  rw[hst]
  have hsub:∀id∈za2 (E.take i),id∈za2 E:=fun id hid=>by
   obtain⟨e,he,hid⟩:=xa2.1 hid
   exact xa2.2 ⟨e,List.mem_of_mem_take he,hid⟩
  obtain⟨B,hB0,hBf⟩:=hk.B
  have hB:Mi[b]?=some (.rich B):=by rw[hsame b hbl (fun hm=>(hk.own b (hsub b hm)).1 rfl) fun hm=>(hvl b hm).2 rfl];exact hB0
  have lb:loadAt Mi none (.optr b f)=some vx:=by simp only[loadAt,hB];exact hBf
  have hlx:=zwb hheld
  by_cases hlt:i<E.length
  ·have hlt':(i:Int)<E.length:=by omega
   have e1:IntKind.wrap .i64 ((i:Int)+1)=(i:Int)+1:=zaw (by omega) (by omega)
   have hgi:=xaa hlt
   have hmke:=fun s=>hmk s _ (hEn _ (xa8 hlt))
   have hgE:Ei[i]?=some E[i]:=by rw[hrest i (xap _)];exact hgi
   obtain⟨⟨rest,hxi⟩,hle⟩:=hx _ (xa8 hlt)
   have htk:E.take (i+1)=E.take i++[E[i]]:=by rw[xbg,hgi];rfl
   have hcut:=zq6 Ei i _ hgE
   have hset:=fun lg=>z0d Ei i _ lg hgE
   have hnd:∀id∈(E[i]).x.refs,id ∉ za2 (E.take i):=by
    have h1:=hk.nd
    rw[<-List.take_append_drop (i+1) E,htk]at h1
    unfold za2 at h1
    simp only[List.flatMap_append,xct,List.flatMap_nil,xas,xbj]at h1
    rw[xco]at h1
    intro id hid hm
    exact h1.2.2 id hm id (xc0 _ hid) rfl
   have hown:∀id∈(E[i]).x.refs,id≠b/\id ∉ vx.refs:=fun id hid=>hk.own id (xa2.2 ⟨E[i],xa8 hlt,hid⟩)
   generalize E[i]=e at hmke hxi hle htk hcut hnd hown hset hgE hgi
   obtain⟨x,lg,n,len,cells⟩:=e
   dsimp only at hmke
   simp only[KE.c3]at hcut hxi hle hnd hown hset
   rcases hheld with⟨_,_,h0⟩|⟨vid,vo,rfl,hvo,hvr,hvc,_⟩
   ·omega
   obtain⟨hvidl,hvidb⟩:=hvl vid (by simp[AV.refs])
   have lv:=zmy hvo hvr hcut
   have hxlt:∀id∈x.refs,id<M.length:=zee hxi
   have hx':KX Mi sz x len (zaq len ((mi n).map .imm)++rest):=zdn hxi fun id hid=>hsame id (hxlt id hid) (hnd id hid) (hown id hid).2
   have hst3:storeAt (Mi++[.rich [zae,zae,zaa 0]]) (.optr Mi.length 0) [x,lg,zaa n]=some (Mi++[.rich [x,lg,zaa n]]):=by
    simp[storeAt,setAll]
   have hh:(Mi++[.rich [x,lg,zaa n]])[Mi.length]?=some (.rich [x,lg,zaa n]):=ze2 _ _
   have lh0:loadAt (Mi++[.rich [x,lg,zaa n]]) none (.optr Mi.length 0)=some x:=by simp only[loadAt,hh];rfl
   have hold:∀id,id<Mi.length->(Mi++[.rich [x,lg,zaa n]])[id]?=Mi[id]?:=fun id h=>xac h
   obtain⟨e,s',h1,_,rfl,M2,lg',rest',rfl,q1,q2,q3,q4⟩:=z9o (K:=M.length) (b:=b) (i:=(i:Int)) (zs:=zs) (f:=f) hb0 hz hmke (hms n) hh (fun hm=>by have:=hxlt _ hm;omega) (zdn hx' fun id hid=>hold id (zee hx' id hid)) hle
    (s:=⟨M.length,[(0,.optr b 0),(2,zaa (i:Nat)),(3,.optr Mi.length 0),(4,x),(5,zaa 0)],Mi++[.rich [x,lg,zaa n]]⟩) (by simp -implicitDefEqProofs [])
   simp only[xak,xax,xaz,xaw]at q1 q2 q4
   rcases q4 with⟨h0,_⟩|⟨h0,_⟩|⟨_,nid,nob,rfl,hnB,hno,hnr⟩
   ·omega
   ·omega
   have h2same:∀id,id<Mi.length->id ∉ x.refs->M2[id]?=Mi[id]?:=fun id h3 h4=>by rw[q2 id (by omega) h4];exact hold id h3
   have hvx:vid ∉ x.refs:=fun hm=>(hown vid hm).2 (by simp[AV.refs])
   have hbx:b ∉ x.refs:=fun hm=>(hown b hm).1 rfl
   have hB2:M2[b]?=some (.rich B):=by rw[h2same b (by omega) hbx];exact hB
   have lb2:loadAt M2 none (.optr b f)=some (.osl vid 0 3 E.length none):=by simp only[loadAt,hB2];exact hBf
   have hvo2:M2[vid]?=some vo:=by rw[h2same vid (by omega) hvx];exact hvo
   obtain⟨o',hr',hs'⟩:=zpm (vs:=[.osl nid 0 sz (len+40) none]) (off:=i*3+1) hvo2 hvr (by simp only[xax,xaz];omega)
   have hset':setAll (zcn Ei) (i*3+1) [.osl nid 0 sz (len+40) none]=zcn (Ei.set i ⟨x,.osl nid 0 sz (len+40) none,n,len,cells⟩):=hset _
   rw[hset']at hr'
   have h3same:∀id,id<Mi.length->id ∉ x.refs->id≠vid->(M2.set vid o')[id]?=Mi[id]?:=fun id h3 h4 h5=>by rw[xa6 (fun e=>h5 e.symm)];exact h2same id h3 h4
   refine⟨.normal,⟨M.length,[(0,.optr b 0),(2,zaa ((i:Int)+1))],M2.set vid o'⟩,?_,.inl ⟨rfl,m-1,by omega,i+1,M2.set vid o',Ei.set i ⟨x,.osl nid 0 sz (len+40) none,n,len,cells⟩,by omega,by simp -implicitDefEqProofs [],by simp;omega,fun id q1 q2 q3=>?_,
    .inr ⟨vid,o',rfl,by rw[xcf (by omega)],hr',by rw[z0c];simp[hEl],by omega⟩,by simp[hEl],fun j e hj he=>?_,fun j hj=>?_⟩⟩
   ·simp -implicitDefEqProofs [zom,lb,-loadAt,hlt',lv,hst3,-storeAt,lh0,h1,lb2,hs',e1]
   ·rw[htk,z3c,xaj,not_or]at q2
    rw[h3same id (by omega) q2.2 fun e=>q3 (by simp[AV.refs,e])]
    exact hsame id q1 q2.1 q3
   ·rcases xa1 j i with hji|hji
    ·obtain⟨e',he',g1,g2,g3,⟨rst,g4⟩,nid2,ob2,g5,g6,g7,g8⟩:=hdone j e hji he
     have hej:e∈E.take i:=xah (i:=j) (by rw[xce,if_pos hji];exact he)
     refine⟨e',by rw[xa6 (by omega)];exact he',g1,g2,g3,⟨rst,zdn g4 fun id hid=>?_⟩,nid2,ob2,g5,g6,?_,g8⟩
     ·have hid2:id∈za2 (E.take i):=xa2.2 ⟨e,hej,hid⟩
      exact h3same id (zee g4 id hid) (fun hm=>hnd id hm hid2) fun e=>(hk.own id (hsub id hid2)).2 (by simp[AV.refs,e])
     ·have hl2:nid2<Mi.length:=(xab.1 g7).1
      rw[h3same nid2 hl2 (fun hm=>by have:=hxlt _ hm;omega) (by omega)]
      exact g7
    ·have:j=i:=by omega
     subst this
     rw[hgi]at he
     cases he
     refine⟨⟨x,.osl nid 0 sz (len+40) none,n,len,cells⟩,by rw[xcf (by omega)],rfl,rfl,rfl,⟨rest',zdn q3 fun id hid=>?_⟩,nid,nob,rfl,by omega,?_,hnr⟩
     ·rw[xa6]
      intro e
      exact hvx (by rw[e];exact hid)
     ·rw[xa6 (by omega)];exact hno
   ·rw[xa6 (by omega)];exact hrest j (by omega)
  ·have:i=E.length:=by omega
   subst this
   rw[xbp]at hsame
   refine⟨.exit 0,⟨M.length,[(0,.optr b 0),(2,zaa E.length),(12,avb false)],Mi⟩,?_,.inr ⟨by simp,rfl,Mi,Ei,rfl,hlen,hsame,hheld,hEl,fun j e he=>hdone j e ((xab.1 he).1) he⟩⟩
   simp -implicitDefEqProofs [zom,lb,-loadAt,hlx]
 obtain⟨e,s',h1,_,rfl,M',E',rfl,h2,h3,h4,h5,h6⟩:=hloop
 refine⟨M',E',?_,h2,h3,h4,h5,h6⟩
 rw[zad code ext hg]
 simp -implicitDefEqProofs [zcu,h1]
end
end Go.EX

